/- AnswerOrder of the program: an order that keeps to the times. Conditions: those of the theorems alone. -/
import Derived.Test.YthcgapfhlggegaaAskNext
namespace Go.Proofs.Ythcgapfhlggegaa
set_option linter.unusedVariables false
open Go.RowKit

/-- an order that keeps to the times; the questions in it are gone -/
def OrdI (xs : List QuestionD) (start : Int) (gs : List Bool) (os : List Int) (now : Int) : Prop :=
  os.Nodup ∧ (∀ t ∈ os, ∃ j : Nat, t = (j : Int) ∧ gs[j]? = some true) ∧ now = start + sumF (lenQ xs) os ∧ ∀ k (h : k < os.length), (questAt xs os[k].toNat).Arrived ≤ start + sumF (lenQ xs) (os.take k)
theorem OrdI.start (xs : List QuestionD) (start : Int) (gs : List Bool) : OrdI xs start gs [] start := ⟨by simp, by simp, by simp [sumF], fun k h => absurd h (by simp)⟩
theorem OrdI.skip {xs : List QuestionD} {start now : Int} {gs : List Bool} {os : List Int} (h : OrdI xs start gs os now) (k : Nat) : OrdI xs start (gs.set k true) os now := by
  refine ⟨h.1, fun t ht => ?_, h.2.2⟩
  obtain ⟨j, hj, hg⟩ := h.2.1 t ht
  refine ⟨j, hj, ?_⟩
  rw [List.getElem?_set]
  split
  · have := (List.getElem?_eq_some_iff.1 hg).1
    subst_vars
    simp [this]
  · exact hg
theorem OrdI.take {xs : List QuestionD} {start now : Int} {gs : List Bool} {os : List Int} (h : OrdI xs start gs os now) {k : Nat} (hg : gs[k]? = some false) (ha : (questAt xs k).Arrived ≤ now) : OrdI xs start (gs.set k true) (os ++ [(k : Int)]) (now + (questAt xs k).Length) := by
  have hk := (List.getElem?_eq_some_iff.1 hg).1
  have hs := h.skip k
  refine ⟨?_, fun t ht => ?_, ?_, fun i hi => ?_⟩
  · rw [List.nodup_append]
    refine ⟨h.1, by simp, fun a ha b hb e => ?_⟩
    simp at hb
    obtain ⟨j, hj, hgj⟩ := h.2.1 a ha
    have : j = k := by omega
    subst this
    rw [hg] at hgj
    cases hgj
  · rcases List.mem_append.1 ht with h1 | h1
    · exact hs.2.1 t h1
    · simp at h1
      exact ⟨k, h1, by simp [hk]⟩
  · rw [sumF_snoc, h.2.2.1]; simp [lenQ]; omega
  · by_cases hl : i < os.length
    · rw [List.getElem_append_left hl, List.take_append_of_le_length (by omega)]
      exact h.2.2.2 i hl
    · have e : i = os.length := by simp at hi; omega
      subst e
      rw [List.getElem_append_right (Nat.le_refl _), List.take_left']
      · simp only [Nat.sub_self, List.getElem_cons_zero, Int.toNat_natCast]
        rw [← h.2.2.1]; exact ha
      · rfl
theorem count_set {gs : List Bool} {k : Nat} (hg : gs[k]? = some false) : (gs.set k true).count false + 1 = gs.count false := by
  obtain ⟨hk, e⟩ := List.getElem?_eq_some_iff.1 hg
  have hpos : 0 < gs.count false := List.count_pos_iff.2 (e ▸ List.getElem_mem hk)
  rw [List.count_set hk, e]
  simp
  omega
/-- what FnQuestions asks of an order -/
def OrderP (xs : List QuestionD) (start fin : Int) (os : List Int) (code : Int) : Prop :=
  (code ≠ 0 ∧ os = []) ∨ (code = 0 ∧ questsB xs = true ∧ 0 ≤ start ∧ start ≤ fin ∧ fin ≤ 40000000 ∧ os.Nodup ∧ os.length ≤ 16 ∧ (∀ t ∈ os, 0 ≤ t ∧ t < (xs.length : Int)) ∧ start + sumF (lenQ xs) os ≤ fin ∧ ∀ k (h : k < os.length), (questAt xs os[k].toNat).Arrived ≤ start + sumF (lenQ xs) (os.take k))
def OrderQ (w : World) (xs : List QuestionD) (start fin : Int) (e : Ending) (w' : World) : Prop := ∃ (A : Option Addr) (c : Nat) (os : List Int) (code : Int), e = .returned (.tuple #[.slice A os.length c, .int .i64 code]) ∧ OrderP xs start fin os code ∧ w'.ownsRow w.heap.size 2 1 (.slice A os.length c) os.length (os.flatMap intC) ∧ IsX w w'
theorem OrderQ.bad {w w' : World} {xs : List QuestionD} {start fin code : Int} (hx : IsX w w') (hc : code ≠ 0) : OrderQ w xs start fin (.returned (.tuple #[.slice none 0 0, .int .i64 code])) w' :=
  ⟨none, 0, [], code, rfl, .inl ⟨hc, rfl⟩, World.ownsRow_nil _ _ _ _, hx⟩
set_option maxHeartbeats 6400000 in
set_option maxRecDepth 100000 in
theorem c_AnswerOrder (A : Option Addr) (c : Nat) (xs : List QuestionD) (start fin : Int) (w : World) (hn : xs.length ≤ 1099511627776) (hw : ∀ x ∈ xs, x.wf) (hA : Rd QuestionD.cells 4 w A xs) :
    Calls Try.prog 7 #[.slice A xs.length c, .int .i64 start, .int .i64 fin] w (OrderQ w xs start fin) := by
  have HOKC := hide (c_ValidQuestions A c xs w hn hw hA)
  cases hv : questsB xs
  · rw [hv] at HOKC
    clear hv
    go_enter Try.func7, Try.ntmps7
    go_wp2_with fail
    refine HOKC.out.mono ?_
    rintro e w1 ⟨rfl, hx⟩
    go_wp2_with fail
    go_ret2
    exact OrderQ.bad hx (by omega)
  have HV := hide hv
  rw [hv] at HOKC
  clear hv
  cases hr1 : inB start 0 40000000
  · go_enter Try.func7, Try.ntmps7
    go_wp2_with fail
    refine HOKC.out.mono ?_
    rintro e w1 ⟨rfl, hx⟩
    go_wp2_with (go_at_call 23; refine (c_within _ _ _ _).mono ?_; rintro e w' ⟨rfl, rfl⟩)
    go_ret2
    exact OrderQ.bad hx (by omega)
  cases hr2 : inB fin start 40000000
  · go_enter Try.func7, Try.ntmps7
    go_wp2_with fail
    refine HOKC.out.mono ?_
    rintro e w1 ⟨rfl, hx⟩
    go_wp2_with (go_at_call 23; refine (c_within _ _ _ _).mono ?_; rintro e w' ⟨rfl, rfl⟩)
    go_ret2
    exact OrderQ.bad hx (by omega)
  obtain ⟨hs0, hs1⟩ := inB_true.1 hr1
  obtain ⟨hf0, hf1⟩ := inB_true.1 hr2
  obtain ⟨n, hnn⟩ : ∃ n, n = xs.length := ⟨_, rfl⟩
  have HN := hide hnn
  have hn16 : n ≤ 16 := by rw [hnn]; exact quests_len HV.out
  rw [← hnn] at hn HOKC ⊢
  clear hnn
  have HA := hide hA
  clear hA
  have hmk := make_bools n (by omega)
  go_enter Try.func7, Try.ntmps7
  go_wp2_with fail
  refine HOKC.out.mono ?_
  rintro e w1 ⟨rfl, hx⟩
  have HX1 := hide hx
  clear hx
  go_wp2_with (go_at_call 23; refine (c_within _ _ _ _).mono ?_; rintro e w' ⟨rfl, rfl⟩)
  obtain ⟨GB, hGB⟩ : ∃ GB, GB = w1.heap.size := ⟨_, rfl⟩
  generalize hw2 : World.alloc w1 _ = w2
  have hB2 : Blk w2 GB 4 (boolArr (List.replicate n false)) := by rw [← hw2, hGB]; exact Blk.new w1 _ _
  have hx2 : IsX w w2 := by rw [← hw2]; exact HX1.out.alloc _
  have hwG : w.heap.size ≤ GB := by rw [hGB]; exact HX1.out.size
  rw [← hGB]
  have HX2 := hide hx2
  have HB2 := hide hB2
  have HO2 : Hid (w2.ownsRow (GB + 1) 2 1 (.slice none 0 0) 0 []) := hide (World.ownsRow_nil _ _ _ _)
  clear hw2 hGB hx2 hB2 HX1 HOKC hmk hr1 hr2
  have HI := hide (info_parts Int64_info)
  go_loopg [9, 10] n (fun gk ov nv wr => ∃ (gs : List Bool) (os : List Int) (A' : Option Addr) (c' : Nat) (now : Int), nv = .int .i64 now ∧ start ≤ now ∧ now ≤ fin ∧ ov = .slice A' os.length c' ∧ Hid (gs.length = n ∧ gs.count false = gk) ∧ os.length + gk ≤ n ∧ Hid (OrdI xs start gs os now) ∧ Hid (wr.ownsRow (GB + 1) 2 1 ov os.length (os.flatMap intC)) ∧ Hid (Blk wr GB 4 (boolArr gs)) ∧ Hid (IsX w wr))
  case atStart => exact ⟨List.replicate n false, [], none, 0, start, rfl, Int.le_refl _, hf0, rfl, hide ⟨by simp, by simp⟩, by simp, hide (OrdI.start _ _ _), HO2, HB2, HX2⟩
  case round =>
    clear HX2 HB2 HO2
    obtain ⟨gs, os, A', c', now, rfl, hnow0, hnow1, rfl, HG, hol, HI2, HO, HB, HX⟩ := hrel
    obtain ⟨m, hm⟩ : ∃ m, m = os.length := ⟨_, rfl⟩
    have HM := hide hm
    rw [← hm] at hol HO ⊢
    clear hm
    have HNX := hide (c_nextQuestion A c xs GB n gs now wr (by rw [← HN.out]; exact hn16) (by rw [HG.out.1]; exact HN.out) (by rw [← HN.out]; exact Nat.le_refl _) (HA.out.x HX.out) HB.out)
    rw [← HN.out] at HNX
    go_wp2_with fail
    refine HNX.out.mono ?_
    rintro e w3 ⟨r, rfl, hr, hx⟩
    clear HNX
    rcases hr with rfl | ⟨k, rfl, hkx, hkg, hka⟩
    · have HX3 := hide (HX.out.trans hx)
      have HO3 := hide (own_x' HO.out hx)
      clear hx
      go_wp2_with fail
      go_ret2
      refine ⟨A', c', os, 0, by rw [← HM.out]; rfl, .inr ⟨rfl, HV.out, hs0, hf0, hf1, HI2.out.1, by rw [← HM.out]; omega, fun t ht => ?_, by rw [← HI2.out.2.2.1]; exact hnow1, HI2.out.2.2.2⟩, by rw [← HM.out]; exact row_le' HO3.out (by omega), HX3.out⟩
      obtain ⟨j, hj, hg⟩ := HI2.out.2.1 t ht
      have := (List.getElem?_eq_some_iff.1 hg).1
      have := HG.out.1
      have := HN.out
      omega
    · have hkn : k < n := HN.out ▸ hkx
      have hB3 := HB.out.x hx
      have cB : w3.cell? ⟨GB, k, none⟩ = some (.bool false) := (hB3.cell k).trans (boolArr_get hkg)
      have fz := hB3.frozen k
      have lB := hB3.lt
      have HB3 := hide hB3
      have HX3 := hide (HX.out.trans hx)
      have HO3 := hide (own_x' HO.out hx)
      have HKG := hide hkg
      have HKA := hide hka
      have HCS := hide (count_set hkg)
      clear hB3 hx hkg hka HX HO HB
      go_upto_region 12 with fail
      clear cB fz lB
      have HB4 := hide (bool_set (j := k) HB3.out true)
      have HX4 := hide (HX3.out.setCell (a := ⟨GB, k, none⟩) hwG (.bool true))
      have HO4 := hide (own_set_other HO3.out k (.bool true) (Nat.lt_succ_self GB))
      generalize w3.setCell ⟨GB, k, none⟩ (.bool true) = w4 at HB4 HX4 HO4 ⊢
      clear HB3 HX3 HO3
      obtain ⟨b, off, e, hb, c0, c1, c2, c3⟩ := QuestionD.rd (HA.out.x HX4.out) (show xs[k]? = some xs[k] from List.getElem?_eq_getElem _)
      subst e
      obtain ⟨x0, x1, x2, x3⟩ := (questsB_ok HV.out).2 _ (List.getElem_mem hkx)
      have HQ := hide (questAt_eq hkx)
      have hgk : 1 ≤ gk := by have := HCS.out; have := HG.out.2; omega
      have HG4 : Hid ((gs.set k true).length = n ∧ (gs.set k true).count false = gk - 1) := hide ⟨by rw [List.length_set]; exact HG.out.1, by have := HCS.out; have := HG.out.2; omega⟩
      have hGB4 : GB + 1 ≤ w4.heap.size := HB4.out.lt
      generalize hx : xs[k] = x at c0 c1 c2 c3 x0 x1 x2 x3
      have HXX := hide hx
      clear hx
      by_cases hle : now + x.Length ≤ fin
      · have HI4 := hide (HI2.out.take HKG.out HKA.out)
        rw [HQ.out, HXX.out] at HI4
        go_wp2_with (at_builtin; obtain ⟨i0, hi0, hz0, hz1, hz2⟩ := HI.out; refine wpList_append_any _ rfl (.tmp 54) (.tmp 56) _ rfl (GB + 1) 2 i0 _ 1 8 Try.underlying27 hi0 hz0 hz1 hz2 rfl (by omega) (.slice A' m c') m (os.flatMap intC) rfl (HO4.out.alloc _) _ (some ⟨w4.heap.size, 0, none⟩) 1 1 [.int .i64 (k : Int)] rfl (one_readsZ w4 2 k) (one_oneZ k) (by simp only [maxLen]; omega) (by omega) (by simp; omega) ?_; clear hi0 hz0 hz1 hz2; intro vN wN hownN hgN hatN; obtain ⟨A2, c2', rfl⟩ := own_form hownN)
        have HBN := hide (blk_app HB4.out hgN (fun j hj => by have := (HO4.out.lt j hj).1; omega))
        have HXN : Hid (IsX w wN) := hide (IsX.grown (IsX.alloc HX4.out _) hgN (by intro z hz; have := (HO4.out.lt z hz).1; omega))
        have HON := hide hownN
        clear hownN hgN hatN c0 c1 c2 c3
        go_wp2_with fail
        go_roundg (gk - 1)
        case measure => omega
        case rel => exact ⟨gs.set k true, os ++ [(k : Int)], A2, c2', now + x.Length, by go_num, by omega, by omega, by simp [← HM.out], HG4, by simp [← HM.out]; omega, HI4, hide (by have h := HON.out; simpa [← HM.out, intC] using h), HBN, HXN⟩
      · have HI4 := hide (HI2.out.skip k)
        go_wp2_with fail
        go_roundg (gk - 1)
        case measure => omega
        case rel => exact ⟨gs.set k true, os, A', c', now, rfl, hnow0, hnow1, by rw [HM.out], HG4, by rw [← HM.out]; omega, HI4, by rw [← HM.out]; exact HO4, HB4, HX4⟩
end Go.Proofs.Ythcgapfhlggegaa
