/- Free times: FreeTimes of the reference and of the program. Conditions: lists no longer than 2^40. -/
import Derived.Test.YtmipphgekcdaoaaGreatDoorStartsFns
import Derived.Test.YtmipphgekcdaoaaGreatDoorDays
import Derived.Test.YtmipphgekcdaoaaGreatDoorPairs
namespace Go.Proofs.YtmipphgekcdaoaaGreatDoor
set_option linter.unusedVariables false
open Go.RowKit

def lenAt (xs : List OfferD) (p : Int) : Int := match xs[p.toNat]? with | some x => x.Length | none => 0
theorem lenAt_at {xs : List OfferD} {p : Int} {j : Nat} (e : p = (j : Int)) (h : j < xs.length) : lenAt xs p = xs[j].Length := by
  subst e
  simp [lenAt, List.getElem?_eq_getElem h]
def ftStep (xs : List OfferD) (en : Int) (s : Int × List (Int × Int)) (o : Int) : Int × List (Int × Int) :=
  (if s.1 < startAt xs o + lenAt xs o then startAt xs o + lenAt xs o else s.1, if s.1 < startAt xs o ∧ s.1 < en then s.2 ++ [(s.1, if en < startAt xs o then en else startAt xs o)] else s.2)
def ftTo (xs : List OfferD) (os : List Int) (op en : Int) (k : Nat) : Int × List (Int × Int) := (os.take k).foldl (ftStep xs en) (op, [])
section
variable {xs : List OfferD} {os : List Int} {op en : Int} {k : Nat} {a st ln : Int} {L : List (Int × Int)} (h : k < os.length) (hs : ftTo xs os op en k = (a, L)) (h1 : startAt xs os[k] = st) (h2 : lenAt xs os[k] = ln)
include h hs h1 h2
theorem ft_next : ftTo xs os op en (k + 1) = (if a < st + ln then st + ln else a, if a < st ∧ a < en then L ++ [(a, if en < st then en else st)] else L) := by
  unfold ftTo at hs ⊢
  rw [List.take_succ_eq_append_getElem h, List.foldl_append, hs]
  simp only [List.foldl_cons, List.foldl_nil, ftStep, h1, h2]
end
theorem ft_len (xs : List OfferD) (en : Int) : ∀ (os : List Int) (s : Int × List (Int × Int)), (os.foldl (ftStep xs en) s).2.length ≤ s.2.length + os.length
  | [], s => by simp
  | o :: os, s => by
    have h1 := ft_len xs en os (ftStep xs en s o)
    have h2 : (ftStep xs en s o).2.length ≤ s.2.length + 1 := by
      simp only [ftStep]
      split <;> simp
    simp only [List.foldl_cons, List.length_cons]; omega
def freeL (xs : List OfferD) (os : List Int) (op en : Int) : List (Int × Int) := if (ftTo xs os op en os.length).1 < en then (ftTo xs os op en os.length).2 ++ [((ftTo xs os op en os.length).1, en)] else (ftTo xs os op en os.length).2
def timeB (op en : Int) : Bool := decide (0 ≤ op ∧ op < en ∧ en ≤ 1440)
def timesC (xs : List OfferD) (ps : List Int) (op en : Int) : Int := if askB xs ps = 0 then (if timeB op en = true then 0 else 2) else askB xs ps
def timesZ (xs : List OfferD) (ps : List Int) (op en : Int) : List (Int × Int) := if timesC xs ps op en = 0 then freeL xs (startZ xs ps) op en else []
theorem few_of {ps : List Int} {m : Int} (h : risesB ps 0 (m - 1) = true) : (ps.length : Int) ≤ m ∨ ps = [] := by
  rcases Nat.eq_zero_or_pos ps.length with h0 | h0
  · exact .inr (List.eq_nil_of_length_eq_zero h0)
  · left
    have key : ∀ i (hi : i < ps.length), (i : Int) ≤ ps[i] := fun i => by
      induction i with
      | zero => intro hi; have := (rises_mem h _ (List.getElem_mem hi)).1; omega
      | succ j ih => intro hi; have h1 := ih (by omega); have h2 := rises_lt h (i := j) hi; omega
    have h1 := key (ps.length - 1) (by omega)
    have h2 := (rises_mem h _ (List.getElem_mem (show ps.length - 1 < ps.length by omega))).2
    omega
theorem ask_zero' {xs : List OfferD} {ps : List Int} (h : askB xs ps = 0) : offersB xs = true ∧ risesB ps 0 (xs.length - 1) = true := by
  cases h1 : offersB xs
  · rw [ask_bad h1] at h; omega
  · cases h2 : risesB ps 0 (xs.length - 1)
    · rw [ask_range h1 h2] at h; omega
    · exact ⟨rfl, rfl⟩
theorem ask_few {xs : List OfferD} {ps : List Int} (h : askB xs ps = 0) : xs.length ≤ 16 ∧ ps.length < 20 ∧ ∀ p ∈ ps, 0 ≤ p ∧ p < (xs.length : Int) := by
  obtain ⟨hv, hr⟩ := ask_zero' h
  have hl := offers_len hv
  refine ⟨hl, ?_, fun p hp => by have := rises_mem hr p hp; omega⟩
  rcases few_of hr with h | rfl
  · omega
  · simp
theorem timesZ_len (xs : List OfferD) (ps : List Int) (op en : Int) : (timesZ xs ps op en).length ≤ 1048576 := by
  unfold timesZ
  split
  · rename_i h
    have ha : askB xs ps = 0 := by
      unfold timesC at h
      split at h
      · assumption
      · rename_i h2; exact absurd h h2
    have hf := ask_few ha
    have h1 := ft_len xs en ((startZ xs ps).take (startZ xs ps).length) (op, [])
    rw [List.length_take, startZ_len] at h1
    simp at h1
    unfold freeL ftTo
    rw [startZ_len]
    split <;> simp <;> omega
  · simp
theorem times_bad {xs : List OfferD} {ps : List Int} {op en : Int} (h : askB xs ps ≠ 0) : timesZ xs ps op en = [] ∧ timesC xs ps op en = askB xs ps := by simp [timesZ, timesC, h]
theorem times_range {xs : List OfferD} {ps : List Int} {op en : Int} (h : askB xs ps = 0) (h2 : timeB op en = false) : timesZ xs ps op en = [] ∧ timesC xs ps op en = 2 := by simp [timesZ, timesC, h, h2]
theorem times_ok {xs : List OfferD} {ps : List Int} {op en : Int} (h : askB xs ps = 0) (h2 : timeB op en = true) : timesZ xs ps op en = freeL xs (startZ xs ps) op en ∧ timesC xs ps op en = 0 := by simp [timesZ, timesC, h, h2]
theorem freeL_more {xs : List OfferD} {os : List Int} {op en a : Int} {L : List (Int × Int)} {n : Nat} (hn : n = os.length) (h : ftTo xs os op en n = (a, L)) (h2 : a < en) : freeL xs os op en = L ++ [(a, en)] := by
  subst hn; simp [freeL, h, h2]
theorem freeL_done {xs : List OfferD} {os : List Int} {op en a : Int} {L : List (Int × Int)} {n : Nat} (hn : n = os.length) (h : ftTo xs os op en n = (a, L)) (h2 : ¬ a < en) : freeL xs os op en = L := by
  subst hn; simp [freeL, h, h2]
theorem gr_both {w w1 w2 : World} {b0 : Nat} {row : Option Nat} (h : w.grownBy w1 (some b0)) (k : w1.grownBy w2 row) (hr : ∀ b, row = some b → b = b0 ∨ w.heap.size ≤ b) : w.grownBy w2 (some b0) :=
  ⟨k.os.trans h.os, k.tape.trans h.tape, k.output.trans h.output, Nat.le_trans h.size k.size, fun j hj hne => (k.block j (Nat.lt_of_lt_of_le hj h.size) (fun e => by
    rcases hr j e.symm with e2 | e2
    · subst e2; exact hne rfl
    · omega)).trans (h.block j hj hne)⟩
theorem own_next {W7 W : World} {v v1 : Value} {b0 : Nat} (h : ∀ b, v.ownBlock = some b → b = b0 ∨ W7.heap.size ≤ b) (hat : v1.ownBlock = v.ownBlock ∨ v1.ownBlock = some W.heap.size) (hw : W7.heap.size ≤ W.heap.size) : ∀ b, v1.ownBlock = some b → b = b0 ∨ W7.heap.size ≤ b := fun b hb => by
  rcases hat with ha | ha
  · exact h b (ha ▸ hb)
  · rw [ha] at hb; injection hb with hb; right; omega
theorem Rd.grown_ne {α : Type} {cells : α → List Value} {k : Nat} {w w' : World} {A : Option Addr} {xs : List α} {b0 : Nat} (h : Rd cells k w A xs) (hg : w.grownBy w' (some b0)) (hne : ∀ b off, A = some ⟨b, off, none⟩ → b ≠ b0) : Rd cells k w' A xs := fun i x hi => by
  obtain ⟨b, off, e, hb, hc⟩ := h i x hi
  refine ⟨b, off, e, Nat.lt_of_lt_of_le hb hg.size, fun j u hu => ?_⟩
  rw [World.cell?_of_block (hg.block b hb (fun e2 => by injection e2 with e2; exact hne b off e e2))]
  exact hc j u hu

set_option maxRecDepth 100000 in
set_option maxHeartbeats 6400000 in
theorem i_FreeTimes (A0 : Option Addr) (c0 : Nat) (xs0 : List OfferD) (A1 : Option Addr) (c1 : Nat) (xs1 : List Int) (n2 : Int) (n3 : Int) (w : World) (hn0 : xs0.length ≤ 1099511627776) (hw0 : ∀ x ∈ xs0, x.wf) (hA0 : Rd OfferD.cells 5 w A0 xs0) (hn1 : xs1.length ≤ 1099511627776) (hw1 : ∀ x ∈ xs1, intWf x) (hA1 : Rd intC 1 w A1 xs1) (hb2 : intWf n2) (hb3 : intWf n3) : Calls Tryz.prog 6 #[.slice A0 xs0.length c0, .slice A1 xs1.length c1, .int .i64 n2, .int .i64 n3] w (PrPost w (timesZ xs0 xs1 n2 n3) (timesC xs0 xs1 n2 n3)) := by
  have HIS := hide (info_parts PairS_info)
  cases hv : offersB xs0
  · have HB := hide (times_bad (op := n2) (en := n3) (show askB xs0 xs1 ≠ 0 by rw [ask_bad hv]; omega))
    have HK := hide (ask_bad (ps := xs1) hv)
    rw [HK.out] at HB
    go_enter Tryz.func6, Tryz.ntmps6
    go_wp2_with fail
    refine (cb (c_ValidOffers A0 c0 xs0 w hn0 hw0 hA0) hv).mono ?_
    rintro e w1 ⟨rfl, hx⟩
    go_wp2_with fail
    go_ret2
    exact ⟨none, 0, [], by rw [HB.out.1, HB.out.2]; rfl, by rw [HB.out.1]; exact PairRow.nil _ _, hx⟩
  cases hr : risesB xs1 0 (xs0.length - 1)
  · have HB := hide (times_bad (op := n2) (en := n3) (show askB xs0 xs1 ≠ 0 by rw [ask_range hv hr]; omega))
    have HK := hide (ask_range hv hr)
    rw [HK.out] at HB
    go_enter Tryz.func6, Tryz.ntmps6
    go_wp2_with fail
    refine (cb (c_ValidOffers A0 c0 xs0 w hn0 hw0 hA0) hv).mono ?_
    rintro e w1 ⟨rfl, hx⟩
    go_wp2_with fail
    refine (cb (c_areIndices A1 c1 xs1 (xs0.length : Int) w1 hn1 (by omega) (by omega) (hA1.x hx)) hr).mono ?_
    rintro e w2 ⟨rfl, hx2⟩
    go_wp2_with fail
    go_ret2
    exact ⟨none, 0, [], by rw [HB.out.1, HB.out.2]; rfl, by rw [HB.out.1]; exact PairRow.nil _ _, hx.trans hx2⟩
  have hask := ask_ok hv hr
  have HASK := hide hask
  have HFEW := hide (ask_few hask)
  cases htb : timeB n2 n3
  · have HB := hide (times_range hask htb)
    have htb' : ¬ (0 ≤ n2 ∧ n2 < n3 ∧ n3 ≤ 1440) := of_decide_eq_false htb
    clear htb
    by_cases q1 : n2 < 0
    · go_enter Tryz.func6, Tryz.ntmps6
      go_wp2_with fail
      refine (cb (c_ValidOffers A0 c0 xs0 w hn0 hw0 hA0) hv).mono ?_
      rintro e w1 ⟨rfl, hx⟩
      go_wp2_with fail
      refine (cb (c_areIndices A1 c1 xs1 (xs0.length : Int) w1 hn1 (by omega) (by omega) (hA1.x hx)) hr).mono ?_
      rintro e w2 ⟨rfl, hx2⟩
      go_wp2_with fail
      go_ret2
      exact ⟨none, 0, [], by rw [HB.out.1, HB.out.2]; rfl, by rw [HB.out.1]; exact PairRow.nil _ _, hx.trans hx2⟩
    · by_cases q2 : n3 ≤ n2
      · go_enter Tryz.func6, Tryz.ntmps6
        go_wp2_with fail
        refine (cb (c_ValidOffers A0 c0 xs0 w hn0 hw0 hA0) hv).mono ?_
        rintro e w1 ⟨rfl, hx⟩
        go_wp2_with fail
        refine (cb (c_areIndices A1 c1 xs1 (xs0.length : Int) w1 hn1 (by omega) (by omega) (hA1.x hx)) hr).mono ?_
        rintro e w2 ⟨rfl, hx2⟩
        go_wp2_with fail
        go_ret2
        exact ⟨none, 0, [], by rw [HB.out.1, HB.out.2]; rfl, by rw [HB.out.1]; exact PairRow.nil _ _, hx.trans hx2⟩
      · have q3 : 1440 < n3 := by omega
        clear htb'
        go_enter Tryz.func6, Tryz.ntmps6
        go_wp2_with fail
        refine (cb (c_ValidOffers A0 c0 xs0 w hn0 hw0 hA0) hv).mono ?_
        rintro e w1 ⟨rfl, hx⟩
        go_wp2_with fail
        refine (cb (c_areIndices A1 c1 xs1 (xs0.length : Int) w1 hn1 (by omega) (by omega) (hA1.x hx)) hr).mono ?_
        rintro e w2 ⟨rfl, hx2⟩
        go_wp2_with fail
        go_ret2
        exact ⟨none, 0, [], by rw [HB.out.1, HB.out.2]; rfl, by rw [HB.out.1]; exact PairRow.nil _ _, hx.trans hx2⟩
  have HB := hide (times_ok hask htb)
  have htb' : 0 ≤ n2 ∧ n2 < n3 ∧ n3 ≤ 1440 := of_decide_eq_true htb
  obtain ⟨t1, t2, t3⟩ := htb'
  clear htb hask
  go_enter Tryz.func6, Tryz.ntmps6
  go_wp2_with fail
  refine (cb (c_ValidOffers A0 c0 xs0 w hn0 hw0 hA0) hv).mono ?_
  rintro e w1 ⟨rfl, hx⟩
  go_wp2_with fail
  refine (cb (c_areIndices A1 c1 xs1 (xs0.length : Int) w1 hn1 (by omega) (by omega) (hA1.x hx)) hr).mono ?_
  rintro e w2 ⟨rfl, hx2⟩
  have hxa := hx.trans hx2
  clear hx hx2 hv hr
  go_wp2_with fail
  refine (c_byStart A0 c0 xs0 A1 c1 xs1 w2 HFEW.out.2.1 HFEW.out.2.2 (hA0.x hxa) (hA1.x hxa)).mono ?_
  rintro e W7 ⟨A7, c7, rfl, hO7, hx7⟩
  obtain ⟨b0, hb0⟩ : ∃ b0, b0 = W7.heap.size := ⟨_, rfl⟩
  have hrd : Rd intC 1 W7 A7 (startZ xs0 xs1) := Rd.of_own (by omega) intC_len hO7
  have hra := hA0.x (hxa.trans hx7)
  have hnb : ∀ b off, A7 = some ⟨b, off, none⟩ → b ≠ b0 := fun b off e => by
    have := (hO7.lt b (by rw [e]; rfl)).2; omega
  have hna : ∀ b off, A0 = some ⟨b, off, none⟩ → xs0 ≠ [] → b ≠ b0 := fun b off e hne => by
    obtain ⟨x, l, rfl⟩ := List.exists_cons_of_ne_nil hne
    obtain ⟨b', off', e', hb', _⟩ := hra 0 x rfl
    rw [e] at e'; injection e' with e'; injection e' with e1 _; subst e1
    omega
  have HX7 := hide (hxa.trans hx7)
  have HP0 := hide (PairRow.nil W7 W7.heap.size)
  have HB0 := hide (show w.heap.size ≤ b0 by have := (hxa.trans hx7).size; omega)
  have HB1 := hide (hxa.trans hx7).size
  have HBS := hide (Nat.le_refl W7.heap.size)
  have HRD := hide hrd
  have HRA := hide hra
  have HNB := hide hnb
  have HNA := hide hna
  obtain ⟨n, hnn⟩ : ∃ n, n = xs1.length := ⟨_, rfl⟩
  obtain ⟨m, hmm⟩ : ∃ m, m = xs0.length := ⟨_, rfl⟩
  obtain ⟨os, hos⟩ : ∃ os, os = startZ xs0 xs1 := ⟨_, rfl⟩
  have HOL := hide (show os.length = n by rw [hos, startZ_len, hnn])
  have HMEM := hide (show ∀ o ∈ os, 0 ≤ o ∧ o < (m : Int) from fun o ho => by rw [hos] at ho; rw [hmm]; exact HFEW.out.2.2 o (startZ_mem.1 ho))
  have HZ' := hide (show timesZ xs0 xs1 n2 n3 = freeL xs0 os n2 n3 by rw [HB.out.1, hos])
  have HC' := hide HB.out.2
  have HOK := hide (offers_ok (ask_zero' HASK.out).1)
  have HM := hide hmm
  have hn20 : n < 20 := by have := HFEW.out.2.1; omega
  have hm20 : m ≤ 16 := by have := HFEW.out.1; omega
  rw [← hos] at HRD
  rw [← hnn, ← hmm]
  clear hos hnn hmm hrd hra hnb hna
  clear hxa hx7 hO7 hA0 hA1 hw0 hw1 hn0 hn1 hb0
  go_wp2_with fail
  go_loopw [10, 11, 41] (fun ov av iv wr => ∃ (k : Nat) (a : Int) (L : List (Int × Int)) (gs : List Nat), k ≤ n ∧ iv = .int .i64 k ∧ av = .int .i64 a ∧ (∃ A c, ov = .slice A L.length c) ∧ Hid (ftTo xs0 os n2 n3 k = (a, L)) ∧ 0 ≤ a ∧ a ≤ 1440 ∧ L.length ≤ k ∧ Hid (PairRow wr W7.heap.size ov L gs) ∧ Hid (∀ b, ov.ownBlock = some b → b = b0 ∨ W7.heap.size ≤ b) ∧ Hid (W7.grownBy wr (some b0))) (fun _ _ iv _ => n - (intOf iv).toNat)
  case atStart => exact ⟨0, n2, [], [], Nat.zero_le _, rfl, rfl, ⟨_, _, rfl⟩, hide rfl, by omega, by omega, Nat.zero_le _, HP0, hide (fun b hb => by cases hb), hide (gr_refl _ _)⟩
  case round =>
    clear HP0
    obtain ⟨k, a, L, gs, hk, rfl, rfl, ⟨Ao, co, rfl⟩, HT, ha0, ha1, hLk, HP, HV, HGR⟩ := hrel
    have hbase : W7.heap.size ≤ wr.heap.size := by have := HBS.out; have h := HGR.out.size; omega
    have hws := HGR.out.size
    by_cases hlt : k < n
    · have hkx : k < os.length := by have := HOL.out; omega
      obtain ⟨x1, x2⟩ := HMEM.out _ (List.getElem_mem hkx)
      obtain ⟨j, hj⟩ := Int.eq_ofNat_of_zero_le x1
      have hjm : j < m := by omega
      have hjx : j < xs0.length := by have := HM.out; omega
      obtain ⟨b7, off7, e7, hb7, cq⟩ := int_rd (HRD.out.grown_ne HGR.out HNB.out) (show os[k]? = some os[k] from List.getElem?_eq_getElem _)
      obtain ⟨bo, offo, eo, hbo, d0, d1, d2, d3, d4⟩ := OfferD.rd (HRA.out.grown_ne HGR.out (fun b off e => HNA.out b off e (fun e2 => by rw [e2] at hjx; simp at hjx))) (show xs0[j]? = some xs0[j] from List.getElem?_eq_getElem _)
      obtain ⟨y1, y2, y3, y4, y5, y6, y7, y8⟩ := HOK.out _ (List.getElem_mem hjx)
      have HS1 := hide (startAt_at hj hjx)
      have HS2 := hide (lenAt_at hj hjx)
      have HNX := hide (ft_next hkx HT.out HS1.out HS2.out)
      rw [hj] at cq
      obtain ⟨st, hst⟩ : ∃ s, s = xs0[j].Start := ⟨_, rfl⟩
      obtain ⟨ln, hln⟩ : ∃ s, s = xs0[j].Length := ⟨_, rfl⟩
      obtain ⟨id, hid⟩ : ∃ s, s = xs0[j].Id := ⟨_, rfl⟩
      obtain ⟨kd, hkd⟩ : ∃ s, s = xs0[j].Kind := ⟨_, rfl⟩
      obtain ⟨wo, hwo⟩ : ∃ s, s = xs0[j].Worth := ⟨_, rfl⟩
      rw [← hid] at d0
      rw [← hkd] at d1
      rw [← hst] at d2 HNX y3 y4 y6
      rw [← hln] at d3 HNX y5 y6
      rw [← hwo] at d4
      subst e7 eo
      have HST := hide hst
      have HLN := hide hln
      clear hj hst hln hid hkd hwo x1 x2 y1 y2 y7 y8
      by_cases c1 : a < st
      · have hmx : a < st + ln := by omega
        rw [if_pos hmx] at HNX
        by_cases c2 : a < n3
        · rw [if_pos ⟨c1, c2⟩] at HNX
          by_cases c3 : n3 < st
          · rw [if_pos c3] at HNX
            have hmne : min st n3 = n3 := by omega
            have hmxe : max a (st + ln) = st + ln := by omega
            go_wp2_with (at_builtin; obtain ⟨i0, hi0, hz0, hz1, hz2⟩ := HIS.out; refine wpList_append_any _ rfl (.tmp 55) (.tmp 59) _ rfl W7.heap.size 25 i0 _ 1 24 Tryz.underlying28 hi0 hz0 hz1 hz2 rfl (by omega) _ L.length (gs.map pairV) rfl ((HP.out.row.alloc _).alloc _) _ (some ⟨wr.heap.size + 1, 0, none⟩) 1 1 [pairV wr.heap.size] rfl (pair_reads wr _ _ _) (pair_one _) (by simp only [maxLen]; omega) (by omega) (by simp; omega) ?_; clear hi0 hz0 hz1 hz2; intro v1 w1 hown1 hg1 hat1; have HP1 : Hid (PairRow w1 W7.heap.size v1 (L ++ [(a, n3)]) (gs ++ [wr.heap.size])) := hide (HP.out.push (z := (a, n3)) hbase hown1 hg1 hat1); have HG1 := hide (gr_both (gr_x HGR.out ((IsX.alloc (IsX.refl wr) _).alloc _)) hg1 HV.out); have HV1 := hide (own_next (W7 := W7) HV.out hat1 (by simp; omega)); clear hown1 hg1 hat1)
            have hs1 := HG1.out.size
            have e2 := HRA.out.grown_ne HG1.out (fun b off e => HNA.out b off e (fun e2 => by rw [e2] at hjx; simp at hjx))
            obtain ⟨bp, offp, eo, hbp, f0, f1, f2, f3, f4⟩ := OfferD.rd e2 (show xs0[j]? = some xs0[j] from List.getElem?_eq_getElem _)
            injection eo with eo
            injection eo with eo eo'
            subst eo eo'
            rw [← HST.out] at f2
            rw [← HLN.out] at f3
            clear f0 f1 f4 d0 d1 d2 d3 d4 cq e2
            refine wp_region_x (by kernel_rfl) (by kernel_rfl) ?_
            repeat (go_big_quiet_step (fail))
            refine wpQuiet_nil ?_
            rintro _ ⟨pq, rfl⟩
            go_wp2_with fail
            go_roundw
            case rel => exact ⟨k + 1, _, _, _, by omega, by go_num, rfl, ⟨_, _, (row_slice HP1.out.row).choose_spec.choose_spec⟩, HNX, by omega, by omega, by simp; omega, hide (HP1.out.x ⟨pq, rfl⟩), HV1, hide (gr_x HG1.out ⟨pq, rfl⟩)⟩
            case measure => simp [intOf]; omega
          · rw [if_neg c3] at HNX
            have hmne : min st n3 = st := by omega
            have hmxe : max a (st + ln) = st + ln := by omega
            go_wp2_with (at_builtin; obtain ⟨i0, hi0, hz0, hz1, hz2⟩ := HIS.out; refine wpList_append_any _ rfl (.tmp 55) (.tmp 59) _ rfl W7.heap.size 25 i0 _ 1 24 Tryz.underlying28 hi0 hz0 hz1 hz2 rfl (by omega) _ L.length (gs.map pairV) rfl ((HP.out.row.alloc _).alloc _) _ (some ⟨wr.heap.size + 1, 0, none⟩) 1 1 [pairV wr.heap.size] rfl (pair_reads wr _ _ _) (pair_one _) (by simp only [maxLen]; omega) (by omega) (by simp; omega) ?_; clear hi0 hz0 hz1 hz2; intro v1 w1 hown1 hg1 hat1; have HP1 : Hid (PairRow w1 W7.heap.size v1 (L ++ [(a, st)]) (gs ++ [wr.heap.size])) := hide (HP.out.push (z := (a, st)) hbase hown1 hg1 hat1); have HG1 := hide (gr_both (gr_x HGR.out ((IsX.alloc (IsX.refl wr) _).alloc _)) hg1 HV.out); have HV1 := hide (own_next (W7 := W7) HV.out hat1 (by simp; omega)); clear hown1 hg1 hat1)
            have hs1 := HG1.out.size
            have e2 := HRA.out.grown_ne HG1.out (fun b off e => HNA.out b off e (fun e2 => by rw [e2] at hjx; simp at hjx))
            obtain ⟨bp, offp, eo, hbp, f0, f1, f2, f3, f4⟩ := OfferD.rd e2 (show xs0[j]? = some xs0[j] from List.getElem?_eq_getElem _)
            injection eo with eo
            injection eo with eo eo'
            subst eo eo'
            rw [← HST.out] at f2
            rw [← HLN.out] at f3
            clear f0 f1 f4 d0 d1 d2 d3 d4 cq e2
            refine wp_region_x (by kernel_rfl) (by kernel_rfl) ?_
            repeat (go_big_quiet_step (fail))
            refine wpQuiet_nil ?_
            rintro _ ⟨pq, rfl⟩
            go_wp2_with fail
            go_roundw
            case rel => exact ⟨k + 1, _, _, _, by omega, by go_num, rfl, ⟨_, _, (row_slice HP1.out.row).choose_spec.choose_spec⟩, HNX, by omega, by omega, by simp; omega, hide (HP1.out.x ⟨pq, rfl⟩), HV1, hide (gr_x HG1.out ⟨pq, rfl⟩)⟩
            case measure => simp [intOf]; omega
        · have hnc : ¬ (a < st ∧ a < n3) := fun h => c2 h.2
          rw [if_neg hnc] at HNX
          clear hnc
          have hns : n3 < st := by omega
          have hmne : min st n3 = n3 := by omega
          have hmxe : max a (st + ln) = st + ln := by omega
          go_wp2_with fail
          refine wp_region_x (by kernel_rfl) (by kernel_rfl) ?_
          repeat (go_big_quiet_step (fail))
          refine wpQuiet_nil ?_
          rintro _ ⟨pq, rfl⟩
          go_wp2_with fail
          go_roundw
          case rel => exact ⟨k + 1, _, L, gs, by omega, by go_num, rfl, ⟨_, _, rfl⟩, HNX, by omega, by omega, by omega, hide (HP.out.x ⟨pq, rfl⟩), HV, hide (gr_x HGR.out ⟨pq, rfl⟩)⟩
          case measure => simp [intOf]; omega
      · have hnc : ¬ (a < st ∧ a < n3) := fun h => c1 h.1
        rw [if_neg hnc] at HNX
        clear hnc
        by_cases c4 : a < st + ln
        · rw [if_pos c4] at HNX
          have hmne : min st n3 = min st n3 := by omega
          have hmxe : max a (st + ln) = st + ln := by omega
          have hle : min st n3 ≤ a := by omega
          clear hmne
          go_wp2_with fail
          refine wp_region_x (by kernel_rfl) (by kernel_rfl) ?_
          repeat (go_big_quiet_step (fail))
          refine wpQuiet_nil ?_
          rintro _ ⟨pq, rfl⟩
          go_wp2_with fail
          go_roundw
          case rel => exact ⟨k + 1, _, L, gs, by omega, by go_num, rfl, ⟨_, _, rfl⟩, HNX, by omega, by omega, by omega, hide (HP.out.x ⟨pq, rfl⟩), HV, hide (gr_x HGR.out ⟨pq, rfl⟩)⟩
          case measure => simp [intOf]; omega
        · rw [if_neg c4] at HNX
          have hmne : min st n3 = min st n3 := by omega
          have hmxe : max a (st + ln) = a := by omega
          have hle : min st n3 ≤ a := by omega
          clear hmne
          go_wp2_with fail
          refine wp_region_x (by kernel_rfl) (by kernel_rfl) ?_
          repeat (go_big_quiet_step (fail))
          refine wpQuiet_nil ?_
          rintro _ ⟨pq, rfl⟩
          go_wp2_with fail
          go_roundw
          case rel => exact ⟨k + 1, _, L, gs, by omega, by go_num, rfl, ⟨_, _, rfl⟩, HNX, by omega, by omega, by omega, hide (HP.out.x ⟨pq, rfl⟩), HV, hide (gr_x HGR.out ⟨pq, rfl⟩)⟩
          case measure => simp [intOf]; omega
    · obtain rfl : k = n := by omega
      by_cases c5 : a < n3
      · have HFL := hide (freeL_more HOL.out.symm HT.out c5)
        go_wp2_with (at_builtin; obtain ⟨i0, hi0, hz0, hz1, hz2⟩ := HIS.out; refine wpList_append_any _ rfl (.tmp 78) (.tmp 82) _ rfl W7.heap.size 25 i0 _ 1 24 Tryz.underlying28 hi0 hz0 hz1 hz2 rfl (by omega) _ L.length (gs.map pairV) rfl ((HP.out.row.alloc _).alloc _) _ (some ⟨wr.heap.size + 1, 0, none⟩) 1 1 [pairV wr.heap.size] rfl (pair_reads wr _ _ _) (pair_one _) (by simp only [maxLen]; omega) (by omega) (by simp; omega) ?_; clear hi0 hz0 hz1 hz2; intro v1 w1 hown1 hg1 hat1; have HP1 : Hid (PairRow w1 W7.heap.size v1 (L ++ [(a, n3)]) (gs ++ [wr.heap.size])) := hide (HP.out.push (z := (a, n3)) hbase hown1 hg1 hat1); have HG1 := hide (gr_both (gr_x HGR.out ((IsX.alloc (IsX.refl wr) _).alloc _)) hg1 HV.out); have HV1 := hide (own_next (W7 := W7) HV.out hat1 (by simp; omega)); clear hown1 hg1 hat1)
        go_ret2
        obtain ⟨A', c', hform⟩ := row_slice HP1.out.row
        subst hform
        refine ⟨A', c', gs ++ [wr.heap.size], by rw [HZ'.out, HFL.out, HC'.out]; rfl, ?_, HX7.out.grown HG1.out (by intro z hz; injection hz with hz; have := HB0.out; omega)⟩
        rw [HZ'.out, HFL.out]
        exact HP1.out.mono HB1.out
      · have HFL := hide (freeL_done HOL.out.symm HT.out c5)
        go_wp2_with fail
        go_ret2
        refine ⟨Ao, co, gs, by rw [HZ'.out, HFL.out, HC'.out]; rfl, ?_, HX7.out.grown HGR.out (by intro z hz; injection hz with hz; have := HB0.out; omega)⟩
        rw [HZ'.out, HFL.out]
        exact HP.out.mono HB1.out

end Go.Proofs.YtmipphgekcdaoaaGreatDoor
