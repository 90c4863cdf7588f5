/- Rehearsals: what the two validity tests compute. Conditions: lists no longer than 2^40, strings no longer than 2^63 - 1 bytes. -/
import Derived.Test.YtegehdhdlljikaaNestRun
import Derived.Test.YtegehdhdlljikaaNames
import Derived.Test.YtegehdhdlljikaaLists
namespace Go.Proofs.Ytegehdhdlljikaa
set_option linter.unusedVariables false
open Go.RowKit

def RemarkD.okB (x : RemarkD) : Bool := inB x.Number 1 999 && nameB x.Who && nameB x.Cue
def RemarkD.geB (x y : RemarkD) : Bool := decide (y.Number ≤ x.Number)
def strGe (x y : ByteArray) : Bool := !(Op.bytesLess x.toList y.toList)
def cuesB (xs : List ByteArray) : Bool := allGood nameB strGe xs
def remarksB (xs : List RemarkD) : Bool := allGood RemarkD.okB RemarkD.geB xs
def RunD.okB (x : RunD) : Bool := inB x.Day 0 99999 && (cuesB x.Cues && decide (x.Cues.length ≤ 32)) && decide (x.Remarks.length ≤ 8) && remarksB x.Remarks
def RunD.geB (x y : RunD) : Bool := decide (y.Day ≤ x.Day)
def lastStep (xs : List RunD) (i : Nat) (s : Int) : Int := match xs[i]? with | some x => (match x.Remarks.getLast? with | some r => r.Number | none => s) | none => s
def lastTo (xs : List RunD) (k : Nat) : Int := upTo (lastStep xs) 0 k
def gapB (xs : List RunD) (i : Nat) : Bool := match xs[i]? with | some x => (match x.Remarks[0]? with | some r => decide (lastTo xs i < r.Number) | none => true) | none => true
def runsB (xs : List RunD) : Bool := decide (xs.length ≤ 16) && allGood RunD.okB RunD.geB xs && (List.range xs.length).all (gapB xs)
theorem ok_day {x : RunD} (h : inB x.Day 0 99999 = false) : x.okB = false := by simp only [RunD.okB, h, Bool.false_and]
theorem ok_cues {x : RunD} (h : cuesB x.Cues = false) : x.okB = false := by simp only [RunD.okB, h, Bool.false_and, Bool.and_false]
theorem ok_names {x : RunD} (h : (cuesB x.Cues && decide (x.Cues.length ≤ 32)) = false) : x.okB = false := by simp only [RunD.okB, h, Bool.false_and, Bool.and_false]
theorem ok_clen {x : RunD} (h : 32 < x.Cues.length) : x.okB = false := by simp only [RunD.okB, decide_eq_false (show ¬ x.Cues.length ≤ 32 by omega), Bool.false_and, Bool.and_false]
theorem ok_rlen {x : RunD} (h : 8 < x.Remarks.length) : x.okB = false := by simp only [RunD.okB, decide_eq_false (show ¬ x.Remarks.length ≤ 8 by omega), Bool.false_and, Bool.and_false]
theorem ok_rem {x : RunD} (h : remarksB x.Remarks = false) : x.okB = false := by simp only [RunD.okB, h, Bool.and_false]
theorem ok_all {x : RunD} (h0 : inB x.Day 0 99999 = true) (h1 : cuesB x.Cues = true) (h2 : ¬ 32 < x.Cues.length) (h3 : ¬ 8 < x.Remarks.length) (h4 : remarksB x.Remarks = true) : x.okB = true := by
  simp only [RunD.okB, h0, h1, h4, decide_eq_true (show x.Cues.length ≤ 32 by omega), decide_eq_true (show x.Remarks.length ≤ 8 by omega), Bool.and_true]
theorem ok_parts {x : RunD} (h : x.okB = true) : x.Cues.length ≤ 32 ∧ x.Remarks.length ≤ 8 ∧ remarksB x.Remarks = true ∧ 0 ≤ x.Day ∧ x.Day ≤ 99999 := by
  simp only [RunD.okB, Bool.and_eq_true, decide_eq_true_eq] at h
  have := inB_true.1 h.1.1.1
  exact ⟨h.1.1.2.2, h.1.2, h.2, this⟩
theorem last_some {xs : List RunD} {k : Nat} (h : k < xs.length) {m : Nat} (hm : m + 1 = xs[k].Remarks.length) : lastTo xs (k + 1) = (xs[k].Remarks[m]'(by omega)).Number := by
  unfold lastTo
  rw [upTo_succ]
  simp only [lastStep, List.getElem?_eq_getElem h, List.getLast?_eq_getElem?]
  rw [show xs[k].Remarks.length - 1 = m by omega, List.getElem?_eq_getElem (by omega)]
theorem last_none {xs : List RunD} {k : Nat} (h : k < xs.length) (h0 : xs[k].Remarks.length = 0) : lastTo xs (k + 1) = lastTo xs k := by
  unfold lastTo
  rw [upTo_succ]
  simp only [lastStep, List.getElem?_eq_getElem h, List.getLast?_eq_getElem?]
  rw [List.getElem?_eq_none (by omega)]
theorem gap_at {xs : List RunD} {k : Nat} (h : k < xs.length) (h0 : 0 < xs[k].Remarks.length) : gapB xs k = decide (lastTo xs k < xs[k].Remarks[0].Number) := by
  simp only [gapB, List.getElem?_eq_getElem h, List.getElem?_eq_getElem h0]
theorem gap_none {xs : List RunD} {k : Nat} (h : k < xs.length) (h0 : xs[k].Remarks.length = 0) : gapB xs k = true := by
  simp only [gapB, List.getElem?_eq_getElem h]
  rw [List.getElem?_eq_none (by omega)]
theorem runs_gap {xs : List RunD} {k : Nat} (h : k < xs.length) (hg : gapB xs k = false) : runsB xs = false := by
  have : (List.range xs.length).all (gapB xs) = false := by
    rw [List.all_eq_false]; exact ⟨k, by simpa using h, by simp [hg]⟩
  simp only [runsB, this, Bool.and_false]
theorem runs_good {xs : List RunD} (h : allGood RunD.okB RunD.geB xs = false) : runsB xs = false := by simp only [runsB, h, Bool.and_false, Bool.false_and]
theorem runs_len {xs : List RunD} (h : 16 < xs.length) : runsB xs = false := by simp only [runsB, decide_eq_false (show ¬ xs.length ≤ 16 by omega), Bool.false_and]
theorem runs_all {xs : List RunD} (h1 : ∀ i, i < xs.length → goodAt RunD.okB RunD.geB xs i = true) (h2 : ∀ i, i < xs.length → gapB xs i = true) : runsB xs = decide (xs.length ≤ 16) := by
  have h3 : (List.range xs.length).all (gapB xs) = true := by
    rw [List.all_eq_true]; intro i hi; exact h2 i (by simpa using hi)
  simp only [runsB, all_good h1, h3, Bool.and_true]
theorem good_ok {xs : List RunD} {k : Nat} (h : k < xs.length) (hg : goodAt RunD.okB RunD.geB xs k = true) : xs[k].okB = true := by
  cases k with
  | zero => simpa [goodAt, List.getElem?_eq_getElem h] using hg
  | succ j =>
    simp only [goodAt, List.getElem?_eq_getElem h, Bool.and_eq_true] at hg
    exact hg.1
def lastIn (x : RunD) (s : Int) : Nat → Int
  | 0 => s
  | m + 1 => match x.Remarks[m]? with | some r => r.Number | none => s
theorem in_succ {x : RunD} {s : Int} {m : Nat} (h : m < x.Remarks.length) : lastIn x s (m + 1) = x.Remarks[m].Number := by simp only [lastIn, List.getElem?_eq_getElem h]
theorem in_lt {xs : List RunD} {k m : Nat} (h : k < xs.length) (hr : remarksB xs[k].Remarks = true) (hg : gapB xs k = true) (hm : m < xs[k].Remarks.length) : lastIn xs[k] (lastTo xs k) m < xs[k].Remarks[m].Number := by
  cases m with
  | zero =>
    rw [gap_at h hm] at hg
    exact of_decide_eq_true hg
  | succ j =>
    rw [in_succ (by omega)]
    have := allGood_lt hr hm
    simp only [RemarkD.geB, decide_eq_false_iff_not] at this
    omega
theorem in_end {xs : List RunD} {k : Nat} (h : k < xs.length) : lastIn xs[k] (lastTo xs k) xs[k].Remarks.length = lastTo xs (k + 1) := by
  cases hl : xs[k].Remarks.length with
  | zero => rw [last_none h hl]; rfl
  | succ m => rw [in_succ (by omega), last_some h hl.symm]

theorem c_maxLt (a b : Int) (w : World) (h : a < b) : Calls Try.prog 45 #[.int .i64 a, .int .i64 b] w fun e w' => e = .returned (.int .i64 b) ∧ w = w' := by
  go_enter Try.func45, Try.ntmps45
  go_wp2
  go_ret
  exact ⟨rfl, rfl⟩
set_option maxHeartbeats 1600000 in
theorem c_l21Last (A : Option Addr) (c : Nat) (xs : List RunD) (i : Nat) (w : World) (hi : i ≤ xs.length) (hn : xs.length ≤ 1099511627776) (hs : ∀ x ∈ xs, x.small 1099511627776) (hg : ∀ j (h : j < xs.length), j < i → remarksB xs[j].Remarks = true ∧ gapB xs j = true) (hA : RdRun 0 w A xs) :
    Calls Try.prog 29 #[.slice A i c] w fun e w' => e = .returned (.int .i64 (lastTo xs i)) ∧ IsX w w' := by
  have HG := hide hg
  have HS := hide hs
  clear hg hs
  go_enter Try.func29, Try.ntmps29
  go_wp2
  go_loopw [3, 4] (fun s iv wr => ∃ k : Nat, k ≤ i ∧ iv = .int .i64 k ∧ s = .int .i64 (lastTo xs k) ∧ IsX w wr) (fun _ iv _ => i - (intOf iv).toNat)
  case atStart => exact ⟨0, Nat.zero_le _, rfl, rfl, IsX.refl _⟩
  case round =>
    obtain ⟨k, hk, rfl, rfl, p, rfl⟩ := hrel
    by_cases hlt : k < i
    · have hltx : k < xs.length := by omega
      obtain ⟨b, off, qA, rA, qC, rC, rfl, hb, c0, c1, c2, hR0, hR1⟩ := RdRun.rd hA (show xs[k]? = some xs[k] from List.getElem?_eq_getElem _)
      have hsm := HS.out _ (List.getElem_mem hltx)
      simp only [RunD.small] at hsm
      obtain ⟨len, hlen⟩ : ∃ len, len = xs[k].Remarks.length := ⟨_, rfl⟩
      have HLN := hide hlen
      have hlm : len ≤ 1099511627776 := by omega
      rw [← hlen] at c2
      clear hA hsm hlen hR0
      go_wp2
      go_loopw [3, 5] (fun s jv wr => ∃ m : Nat, m ≤ len ∧ jv = .int .i64 m ∧ s = .int .i64 (lastIn xs[k] (lastTo xs k) m) ∧ IsX w wr) (fun _ jv _ => len - (intOf jv).toNat)
      case atStart => exact ⟨0, Nat.zero_le _, rfl, rfl, ⟨p, rfl⟩⟩
      case round =>
        obtain ⟨m, hm, rfl, rfl, p', rfl⟩ := hrel
        by_cases hml : m < len
        · have hmx : m < xs[k].Remarks.length := HLN.out ▸ hml
          obtain ⟨b2, off2, rfl, hb2, f0, f1, f2, f3⟩ := RemarkD.rd hR1 (show xs[k].Remarks[m]? = some xs[k].Remarks[m] from List.getElem?_eq_getElem _)
          have HL := hide (in_lt hltx (HG.out k hltx hlt).1 (HG.out k hltx hlt).2 hmx)
          have HI := hide (in_succ (s := lastTo xs k) hmx)
          clear hR1
          go_wp2_with (go_at_call 45; refine (c_maxLt _ _ _ HL.out).mono ?_; rintro e w' ⟨rfl, rfl⟩)
          go_roundw
          case rel => exact ⟨m + 1, by omega, by go_num, by rw [HI.out], ⟨p', rfl⟩⟩
          case measure => simp [intOf]; omega
        · obtain rfl : m = len := by omega
          have HE := hide (show lastIn xs[k] (lastTo xs k) m = lastTo xs (k + 1) by rw [HLN.out]; exact in_end hltx)
          go_wp2
          go_roundw
          case rel => exact ⟨k + 1, by omega, by go_num, by rw [HE.out], ⟨p', rfl⟩⟩
          case measure => simp [intOf]; omega
    · obtain rfl : k = i := by omega
      go_wp2
      go_ret
      exact ⟨rfl, ⟨p, rfl⟩⟩

set_option maxHeartbeats 3200000 in
theorem c_rightRun (x : RunD) (qA rA : Option Addr) (qC rC : Nat) (w : World) (hwx : x.wf) (hsx : x.Cues.length ≤ 1099511627776 ∧ x.Remarks.length ≤ 1099511627776) (R0 : Rd strC 1 w qA x.Cues) (R1 : Rd RemarkD.cells 4 w rA x.Remarks) :
    Calls Try.prog 18 #[.agg #[.int .i64 x.Day, .slice qA x.Cues.length qC, .slice rA x.Remarks.length rC]] w fun e w' => e = .returned (.bool x.okB) ∧ IsX w w' := by
  have HXW := hide hwx
  clear hwx
  cases h0 : inB x.Day 0 99999
  · have HR := hide (ok_day h0)
    go_enter Try.func18, Try.ntmps18
    go_wp2_with (go_at_call 26; refine (c_within _ _ _ _).mono ?_; rintro e w' ⟨rfl, rfl⟩)
    go_ret
    exact ⟨by rw [HR.out]; rfl, (IsX.refl _).alloc _⟩
  by_cases h1 : 32 < x.Cues.length
  · have HR := hide (ok_clen h1)
    have hd1 : decide ((32 : Int) < ((x.Cues.length : Nat) : Int)) = true := decide_eq_true (by omega)
    go_enter Try.func18, Try.ntmps18
    go_wp2_with (go_at_call 26; refine (c_within _ _ _ _).mono ?_; rintro e w' ⟨rfl, rfl⟩)
    go_ret
    exact ⟨by rw [HR.out]; rfl, (IsX.refl _).alloc _⟩
  have hd1 : decide ((32 : Int) < ((x.Cues.length : Nat) : Int)) = false := decide_eq_false (by omega)
  by_cases h2 : 8 < x.Remarks.length
  · have HR := hide (ok_rlen h2)
    have hd2 : decide ((8 : Int) < ((x.Remarks.length : Nat) : Int)) = true := decide_eq_true (by omega)
    go_enter Try.func18, Try.ntmps18
    go_wp2_with (go_at_call 26; refine (c_within _ _ _ _).mono ?_; rintro e w' ⟨rfl, rfl⟩)
    go_ret
    exact ⟨by rw [HR.out]; rfl, (IsX.refl _).alloc _⟩
  have hd2 : decide ((8 : Int) < ((x.Remarks.length : Nat) : Int)) = false := decide_eq_false (by omega)
  go_enter Try.func18, Try.ntmps18
  go_wp2_with fail
  obtain ⟨W, hW⟩ : ∃ W, W = w.alloc (.cells #[.int .i64 x.Day, .slice qA x.Cues.length qC, .slice rA x.Remarks.length rC] 31) := ⟨_, rfl⟩
  have hx : IsX w W := hW ▸ (IsX.refl w).alloc _
  rw [← hW]
  have hlb : w.heap.size < W.heap.size := by rw [hW]; simp
  have l1 : W.cell? ⟨w.heap.size, 1, none⟩ = some (.slice qA x.Cues.length qC) := by rw [hW]; simp [go_sem]
  have l2 : W.cell? ⟨w.heap.size, 2, none⟩ = some (.slice rA x.Remarks.length rC) := by rw [hW]; simp [go_sem]
  obtain ⟨bx, hbx⟩ : ∃ bx, bx = w.heap.size := ⟨_, rfl⟩
  rw [← hbx] at hlb l1 l2 ⊢
  clear hW hbx
  refine (cb (c_within x.Day 0 99999 W) h0).mono ?_
  rintro e w' ⟨rfl, rfl⟩
  replace R0 := R0.x hx
  replace R1 := R1.x hx
  have H0 := hide h0
  have HX := hide hx
  go_wp2
  clear h0 hx
  go_loopw [26] (fun i wr => ∃ k : Nat, k ≤ x.Cues.length ∧ i = .int .i64 k ∧ (∀ i, i < k → goodAt nameB strGe x.Cues i = true) ∧ IsX W wr) (fun i _ => x.Cues.length - (intOf i).toNat)
  case atStart => exact ⟨0, Nat.zero_le _, rfl, fun i hi => absurd hi (by omega), IsX.refl _⟩
  case round =>
    obtain ⟨k, hk, rfl, hall, p, rfl⟩ := hrel
    have HA := hide hall
    clear hall
    by_cases hlt : k < x.Cues.length
    · obtain ⟨b2, off2, rfl, hb2, e0⟩ := str_rd R0 (show x.Cues[k]? = some x.Cues[k] from List.getElem?_eq_getElem _)
      have hsz : x.Cues[k].size ≤ maxLen := HXW.out.2.1.2 _ (List.getElem_mem hlt)
      cases hok : nameB x.Cues[k]
      · have HR := hide (ok_cues (bad_ok (ge := strGe) (h := hlt) hok))
        clear R0
        go_wp2_with (go_at_call 30; with_reducible refine (cb (c_IsName x.Cues[k] _ hsz) hok).mono ?_; rintro e w' ⟨rfl, rfl⟩)
        go_ret
        exact ⟨by rw [HR.out]; rfl, HX.out.trans ⟨p, rfl⟩⟩
      · cases k with
        | zero =>
          clear R0
          rw [show (((0 : Nat) : Int)) = 0 from rfl]
          simp only [Nat.add_zero] at e0
          have HG := hide (good_step HA.out (good_zero (ge := strGe) (ok := nameB) (h := hlt) hok))
          go_wp2_with (go_at_call 30; with_reducible refine (cb (c_IsName x.Cues[0] _ hsz) hok).mono ?_; rintro e w' ⟨rfl, rfl⟩)
          go_roundw
          case rel => exact ⟨1, by omega, by go_num, HG.out, ⟨p, rfl⟩⟩
          case measure => simp [intOf]; omega
        | succ j =>
          obtain ⟨b3, off3, e, hb3, f0⟩ := str_rd R0 (show x.Cues[j]? = some x.Cues[j] from List.getElem?_eq_getElem _)
          injection e with e
          injection e with q1 q2
          subst q1 q2
          clear R0
          rw [show (((j + 1 : Nat) : Int)) = (j : Int) + 1 from rfl]
          cases hge : Op.bytesLess x.Cues[j].toList x.Cues[j + 1].toList
          · have HR := hide (ok_cues (bad_ge (ge := strGe) (ok := nameB) (i := j) (h := hlt) (by simp only [strGe, hge]; rfl)))
            go_wp2_with (go_at_call 30; with_reducible refine (cb (c_IsName x.Cues[j + 1] _ hsz) hok).mono ?_; rintro e w' ⟨rfl, rfl⟩)
            go_ret
            exact ⟨by rw [HR.out]; rfl, HX.out.trans ⟨p, rfl⟩⟩
          · have HG := hide (good_step HA.out (good_succ (ge := strGe) (ok := nameB) (h := hlt) hok (by simp only [strGe, hge]; rfl)))
            go_wp2_with (go_at_call 30; with_reducible refine (cb (c_IsName x.Cues[j + 1] _ hsz) hok).mono ?_; rintro e w' ⟨rfl, rfl⟩)
            go_roundw
            case rel => exact ⟨j + 1 + 1, by omega, by go_num, HG.out, ⟨p, rfl⟩⟩
            case measure => simp [intOf]; omega
    · obtain rfl : k = x.Cues.length := by omega
      have HCU := hide (show cuesB x.Cues = true from all_good (fun i hi => HA.out i hi))
      have HP := hide (show IsX W (xt W p) from ⟨p, rfl⟩)
      clear R0
      go_wp2
      clear l1
      go_loopw [52] (fun i wr => ∃ k : Nat, k ≤ x.Remarks.length ∧ i = .int .i64 k ∧ (∀ i, i < k → goodAt RemarkD.okB RemarkD.geB x.Remarks i = true) ∧ IsX W wr) (fun i _ => x.Remarks.length - (intOf i).toNat)
      case atStart => exact ⟨0, Nat.zero_le _, rfl, fun i hi => absurd hi (by omega), HP.out⟩
      case round =>
        obtain ⟨k, hk, rfl, hall, p, rfl⟩ := hrel
        have HA := hide hall
        clear hall
        by_cases hlt : k < x.Remarks.length
        · obtain ⟨b2, off2, rfl, hb2, e0, e1, e2, e3⟩ := RemarkD.rd R1 (show x.Remarks[k]? = some x.Remarks[k] from List.getElem?_eq_getElem _)
          have hz1 : x.Remarks[k].Who.size ≤ maxLen := by have := HXW.out.2.2.2 _ (List.getElem_mem hlt); simp only [RemarkD.wf] at this; omega
          have hz2 : x.Remarks[k].Cue.size ≤ maxLen := by have := HXW.out.2.2.2 _ (List.getElem_mem hlt); simp only [RemarkD.wf] at this; omega
          cases h0 : inB x.Remarks[k].Number 1 999
          · have HR := hide (ok_rem (bad_ok (ok := RemarkD.okB) (ge := RemarkD.geB) (h := hlt) (by simp only [RemarkD.okB, h0, Bool.and_false, Bool.false_and])))
            clear R1
            go_wp2
            refine wp_region_x (by kernel_rfl) (by kernel_rfl) ?_
            repeat (go_big_quiet_step ((first | (go_at_call 26; exact call_q (cb (c_within x.Remarks[k].Number 1 999 _) h0)))))
            refine wpQuiet_nil ?_
            rintro _ ⟨q, rfl⟩
            go_wp2
            go_ret
            exact ⟨by rw [HR.out]; rfl, HX.out.trans (IsX.xt (IsX.alloc ⟨p, rfl⟩ _) q)⟩
          cases h1 : nameB x.Remarks[k].Who
          · have HR := hide (ok_rem (bad_ok (ok := RemarkD.okB) (ge := RemarkD.geB) (h := hlt) (by simp only [RemarkD.okB, h0, h1, Bool.and_false, Bool.false_and])))
            clear R1
            go_wp2
            refine wp_region_x (by kernel_rfl) (by kernel_rfl) ?_
            repeat (go_big_quiet_step ((first | (go_at_call 26; exact call_q (cb (c_within x.Remarks[k].Number 1 999 _) h0)) | (go_at_call 30; with_reducible exact call_q (cb (c_IsName x.Remarks[k].Who _ hz1) h1)))))
            refine wpQuiet_nil ?_
            rintro _ ⟨q, rfl⟩
            go_wp2
            go_ret
            exact ⟨by rw [HR.out]; rfl, HX.out.trans (IsX.xt (IsX.alloc ⟨p, rfl⟩ _) q)⟩
          cases h2 : nameB x.Remarks[k].Cue
          · have HR := hide (ok_rem (bad_ok (ok := RemarkD.okB) (ge := RemarkD.geB) (h := hlt) (by simp only [RemarkD.okB, h0, h1, h2, Bool.and_false, Bool.false_and])))
            clear R1
            go_wp2
            refine wp_region_x (by kernel_rfl) (by kernel_rfl) ?_
            repeat (go_big_quiet_step ((first | (go_at_call 26; exact call_q (cb (c_within x.Remarks[k].Number 1 999 _) h0)) | (go_at_call 30; with_reducible exact call_q (cb (c_IsName x.Remarks[k].Who _ hz1) h1)) | (go_at_call 30; with_reducible exact call_q (cb (c_IsName x.Remarks[k].Cue _ hz2) h2)))))
            refine wpQuiet_nil ?_
            rintro _ ⟨q, rfl⟩
            go_wp2
            go_ret
            exact ⟨by rw [HR.out]; rfl, HX.out.trans (IsX.xt (IsX.alloc ⟨p, rfl⟩ _) q)⟩
          have HO := hide (show x.Remarks[k].okB = true by simp only [RemarkD.okB, h0, h1, h2, Bool.and_true])
          cases k with
          | zero =>
            clear R1
            rw [show (((0 : Nat) : Int)) = 0 from rfl]
            simp only [Nat.zero_mul, Nat.add_zero] at e0 e1 e2 e3
            have HG := hide (good_step HA.out (good_zero (ge := RemarkD.geB) HO.out))
            go_wp2
            refine wp_region_x (by kernel_rfl) (by kernel_rfl) ?_
            repeat (go_big_quiet_step ((first | (go_at_call 26; exact call_q (cb (c_within x.Remarks[0].Number 1 999 _) h0)) | (go_at_call 30; with_reducible exact call_q (cb (c_IsName x.Remarks[0].Who _ hz1) h1)) | (go_at_call 30; with_reducible exact call_q (cb (c_IsName x.Remarks[0].Cue _ hz2) h2)))))
            refine wpQuiet_nil ?_
            rintro _ ⟨q, rfl⟩
            go_wp2
            go_roundw
            case rel => exact ⟨1, by omega, by go_num, HG.out, IsX.xt (IsX.alloc ⟨p, rfl⟩ _) q⟩
            case measure => simp [intOf]; omega
          | succ j =>
            obtain ⟨b3, off3, e, hb3, f0, f1, f2, f3⟩ := RemarkD.rd R1 (show x.Remarks[j]? = some x.Remarks[j] from List.getElem?_eq_getElem _)
            injection e with e
            injection e with q1 q2
            subst q1 q2
            clear R1
            rw [show (((j + 1 : Nat) : Int)) = (j : Int) + 1 from rfl]
            by_cases hge : x.Remarks[j + 1].Number ≤ x.Remarks[j].Number
            · have HR := hide (ok_rem (bad_ge (ok := RemarkD.okB) (ge := RemarkD.geB) (i := j) (h := hlt) (by simp only [RemarkD.geB]; exact decide_eq_true hge)))
              go_wp2
              refine wp_region_x (by kernel_rfl) (by kernel_rfl) ?_
              repeat (go_big_quiet_step ((first | (go_at_call 26; exact call_q (cb (c_within x.Remarks[j + 1].Number 1 999 _) h0)) | (go_at_call 30; with_reducible exact call_q (cb (c_IsName x.Remarks[j + 1].Who _ hz1) h1)) | (go_at_call 30; with_reducible exact call_q (cb (c_IsName x.Remarks[j + 1].Cue _ hz2) h2)))))
              refine wpQuiet_nil ?_
              rintro _ ⟨q, rfl⟩
              go_wp2
              go_ret
              exact ⟨by rw [HR.out]; rfl, HX.out.trans (IsX.xt (IsX.alloc ⟨p, rfl⟩ _) q)⟩
            · have HG := hide (good_step HA.out (good_succ (ge := RemarkD.geB) HO.out (by simp only [RemarkD.geB]; exact decide_eq_false hge)))
              go_wp2
              refine wp_region_x (by kernel_rfl) (by kernel_rfl) ?_
              repeat (go_big_quiet_step ((first | (go_at_call 26; exact call_q (cb (c_within x.Remarks[j + 1].Number 1 999 _) h0)) | (go_at_call 30; with_reducible exact call_q (cb (c_IsName x.Remarks[j + 1].Who _ hz1) h1)) | (go_at_call 30; with_reducible exact call_q (cb (c_IsName x.Remarks[j + 1].Cue _ hz2) h2)))))
              refine wpQuiet_nil ?_
              rintro _ ⟨q, rfl⟩
              go_wp2
              go_roundw
              case rel => exact ⟨j + 1 + 1, by omega, by go_num, HG.out, IsX.xt (IsX.alloc ⟨p, rfl⟩ _) q⟩
              case measure => simp [intOf]; omega
        · have HRM := hide (show remarksB x.Remarks = true from all_good (fun i hi => HA.out i (by omega)))
          have HR := hide (ok_all H0.out HCU.out h1 h2 HRM.out)
          go_wp2
          go_ret
          exact ⟨by rw [HR.out]; rfl, HX.out.trans ⟨p, rfl⟩⟩

set_option maxHeartbeats 3200000 in
theorem c_ValidRuns (A : Option Addr) (c : Nat) (xs : List RunD) (w : World) (hn : xs.length ≤ 1099511627776) (hw : ∀ x ∈ xs, x.wf) (hs : ∀ x ∈ xs, x.small 1099511627776) (hA : RdRun 0 w A xs) :
    Calls Try.prog 17 #[.slice A xs.length c] w fun e w' => e = .returned (.bool (runsB xs)) ∧ IsX w w' := by
  by_cases hlen : 16 < xs.length
  · have HR := hide (runs_len hlen)
    generalize xs.length = n at hn hlen ⊢
    go_enter Try.func17, Try.ntmps17
    go_wp2
    go_ret
    exact ⟨by rw [HR.out]; rfl, IsX.refl _⟩
  obtain ⟨n, hnn⟩ : ∃ n, n = xs.length := ⟨_, rfl⟩
  have HN := hide hnn
  rw [← hnn] at hn hlen ⊢
  clear hnn
  have HW := hide hw
  have HS := hide hs
  clear hw hs
  go_enter Try.func17, Try.ntmps17
  go_wp2
  go_loopw [3, 12] (fun s i wr => ∃ k : Nat, k ≤ n ∧ i = .int .i64 k ∧ s = .int .i64 (lastTo xs k) ∧ (∀ i, i < k → goodAt RunD.okB RunD.geB xs i = true) ∧ (∀ i, i < k → gapB xs i = true) ∧ IsX w wr) (fun _ i _ => n - (intOf i).toNat)
  case atStart => exact ⟨0, Nat.zero_le _, rfl, rfl, fun i hi => absurd hi (by omega), fun i hi => absurd hi (by omega), IsX.refl _⟩
  case round =>
    obtain ⟨k, hk, rfl, rfl, hall, hgap, p, rfl⟩ := hrel
    have HA := hide hall
    have HGP := hide hgap
    clear hall hgap
    by_cases hlt : k < n
    · have hltx : k < xs.length := HN.out ▸ hlt
      obtain ⟨b, off, qA, rA, qC, rC, rfl, hb, c0, c1, c2, R0, R1⟩ := RdRun.rd hA (show xs[k]? = some xs[k] from List.getElem?_eq_getElem _)
      have HB := hide (show xs[k].Cues.length ≤ 1099511627776 ∧ xs[k].Remarks.length ≤ 1099511627776 by have := HS.out _ (List.getElem_mem hltx); simp only [RunD.small] at this; omega)
      have HV := hide (HW.out _ (List.getElem_mem hltx))
      cases hok : xs[k].okB
      · have HR := hide (runs_good (bad_ok (ge := RunD.geB) (h := hltx) hok))
        clear hA
        go_wp2
        refine wp_region_x (by kernel_rfl) (by kernel_rfl) ?_
        repeat (go_big_quiet_step ((go_at_call 18; exact call_x (cb (c_rightRun xs[k] qA rA qC rC _ HV.out HB.out (R0.x (IsX.xt (IsX.alloc ⟨p, rfl⟩ _) _)) (R1.x (IsX.xt (IsX.alloc ⟨p, rfl⟩ _) _))) hok))))
        refine wpQuiet_nil ?_
        rintro _ ⟨q, rfl⟩
        go_wp2
        go_ret
        exact ⟨by rw [HR.out]; rfl, IsX.xt (IsX.alloc ⟨p, rfl⟩ _) q⟩
      · cases k with
        | zero =>
          clear hA
          rw [show (((0 : Nat) : Int)) = 0 from rfl]
          simp only [Nat.zero_mul, Nat.add_zero] at c0 c1 c2
          have HGO := hide (good_zero (ok := RunD.okB) (ge := RunD.geB) (h := hltx) hok)
          go_wp2
          refine wp_region_x (by kernel_rfl) (by kernel_rfl) ?_
          repeat (go_big_quiet_step ((go_at_call 18; exact call_x (cb (c_rightRun xs[0] qA rA qC rC _ HV.out HB.out (R0.x (IsX.xt (IsX.alloc ⟨p, rfl⟩ _) _)) (R1.x (IsX.xt (IsX.alloc ⟨p, rfl⟩ _) _))) hok))))
          refine wpQuiet_nil ?_
          rintro wo ⟨q, hq⟩
          have hX1 : IsX ((xt w p).alloc (.cells #[.int .i64 xs[0].Day, .slice qA xs[0].Cues.length qC, .slice rA xs[0].Remarks.length rC] 31)) wo := ⟨q, hq⟩
          clear hq
          have hX : IsX w wo := IsX.trans (IsX.alloc ⟨p, rfl⟩ _) hX1
          have l2 : wo.cell? ⟨(xt w p).heap.size, 2, none⟩ = some (.slice rA xs[0].Remarks.length rC) := keep hX1 (by simp) (by simp [go_sem])
          have hlb : (xt w p).heap.size < wo.heap.size := Nat.lt_of_lt_of_le (by simp) hX1.size
          have R1o := R1.x hX
          have HX := hide hX
          have hrl := (ok_parts hok).2.1
          clear hX1 hX R1 R0 c0 c1 c2
          by_cases hr0 : xs[0].Remarks.length = 0
          · have HP := hide (good_step (k := 0) (ok := RunD.okB) (ge := RunD.geB) HA.out HGO.out)
            have HQ := hide (show ∀ i, i < 1 → gapB xs i = true from fun i hi => by
              by_cases e : i = 0
              · subst e; exact gap_none hltx hr0
              · exact HGP.out i (by omega))
            have HL := hide (last_none hltx hr0)
            rw [hr0] at l2
            clear R1o
            go_wp2
            go_roundw
            case rel => exact ⟨1, by omega, by go_num, by rw [HL.out], HP.out, HQ.out, HX.out⟩
            case measure => simp [intOf]; omega
          · obtain ⟨m, hm⟩ : ∃ m, m + 1 = xs[0].Remarks.length := ⟨xs[0].Remarks.length - 1, by omega⟩
            have hr1 : 0 < xs[0].Remarks.length := by omega
            obtain ⟨b2, off2, rfl, hb2, f0, f1, f2, f3⟩ := RemarkD.rd R1o (show xs[0].Remarks[0]? = some xs[0].Remarks[0] from List.getElem?_eq_getElem _)
            obtain ⟨b3, off3, e, hb3, g0, g1, g2, g3⟩ := RemarkD.rd R1o (show xs[0].Remarks[m]? = some (xs[0].Remarks[m]'(by omega)) from List.getElem?_eq_getElem _)
            injection e with e
            injection e with q1 q2
            subst q1 q2
            simp only [Nat.zero_mul, Nat.add_zero] at f0
            have HL0 := last_some hltx hm
            obtain ⟨z, hz⟩ : ∃ z, z = (xs[0].Remarks[m]'(by omega)).Number := ⟨_, rfl⟩
            rw [← hz] at g0 HL0
            have HL := hide HL0
            have HM := hide hm
            rw [← hm] at l2
            have hm8 : m < 8 := by omega
            clear R1o f1 f2 f3 g1 g2 g3 HL0 hz hm
            by_cases hgp : lastTo xs (0) < xs[0].Remarks[0].Number
            · have HP := hide (good_step (k := 0) (ok := RunD.okB) (ge := RunD.geB) HA.out HGO.out)
              have HQ := hide (show ∀ i, i < 1 → gapB xs i = true from fun i hi => by
                by_cases e : i = 0
                · subst e; rw [gap_at hltx hr1]; exact decide_eq_true hgp
                · exact HGP.out i (by omega))
              go_wp2
              go_roundw
              case rel => exact ⟨1, by omega, by go_num, by rw [HL.out], HP.out, HQ.out, HX.out⟩
              case measure => simp [intOf]; omega
            · have HR := hide (runs_gap hltx (by rw [gap_at hltx hr1]; exact decide_eq_false hgp))
              go_wp2
              go_ret
              exact ⟨by rw [HR.out]; rfl, HX.out⟩
        | succ j =>
          obtain ⟨b', off', qA', rA', qC', rC', e, hb', d0, d1, d2, S0, S1⟩ := RdRun.rd hA (show xs[j]? = some xs[j] from List.getElem?_eq_getElem _)
          injection e with e
          injection e with e1 e2
          subst e1 e2
          clear S0 S1 d1 d2
          clear hA
          rw [show (((j + 1 : Nat) : Int)) = (j : Int) + 1 from rfl]
          by_cases hge : xs[j + 1].Day ≤ xs[j].Day
          · have HR := hide (runs_good (bad_ge (ok := RunD.okB) (ge := RunD.geB) (i := j) (h := hltx) (by simp only [RunD.geB]; exact decide_eq_true hge)))
            go_wp2
            refine wp_region_x (by kernel_rfl) (by kernel_rfl) ?_
            repeat (go_big_quiet_step ((go_at_call 18; exact call_x (cb (c_rightRun xs[j + 1] qA rA qC rC _ HV.out HB.out (R0.x (IsX.xt (IsX.alloc ⟨p, rfl⟩ _) _)) (R1.x (IsX.xt (IsX.alloc ⟨p, rfl⟩ _) _))) hok))))
            refine wpQuiet_nil ?_
            rintro _ ⟨q, rfl⟩
            go_wp2
            go_ret
            exact ⟨by rw [HR.out]; rfl, IsX.xt (IsX.alloc ⟨p, rfl⟩ _) q⟩
          · have HGO := hide (good_succ (ok := RunD.okB) (ge := RunD.geB) (h := hltx) hok (by simp only [RunD.geB]; exact decide_eq_false hge))
            go_wp2
            refine wp_region_x (by kernel_rfl) (by kernel_rfl) ?_
            repeat (go_big_quiet_step ((go_at_call 18; exact call_x (cb (c_rightRun xs[j + 1] qA rA qC rC _ HV.out HB.out (R0.x (IsX.xt (IsX.alloc ⟨p, rfl⟩ _) _)) (R1.x (IsX.xt (IsX.alloc ⟨p, rfl⟩ _) _))) hok))))
            refine wpQuiet_nil ?_
            rintro wo ⟨q, hq⟩
            have hX1 : IsX ((xt w p).alloc (.cells #[.int .i64 xs[j + 1].Day, .slice qA xs[j + 1].Cues.length qC, .slice rA xs[j + 1].Remarks.length rC] 31)) wo := ⟨q, hq⟩
            clear hq
            have hX : IsX w wo := IsX.trans (IsX.alloc ⟨p, rfl⟩ _) hX1
            have l2 : wo.cell? ⟨(xt w p).heap.size, 2, none⟩ = some (.slice rA xs[j + 1].Remarks.length rC) := keep hX1 (by simp) (by simp [go_sem])
            have hlb : (xt w p).heap.size < wo.heap.size := Nat.lt_of_lt_of_le (by simp) hX1.size
            have R1o := R1.x hX
            have HX := hide hX
            have hrl := (ok_parts hok).2.1
            clear hX1 hX R1 R0 c0 c1 c2
            by_cases hr0 : xs[j + 1].Remarks.length = 0
            · have HP := hide (good_step (k := j + 1) (ok := RunD.okB) (ge := RunD.geB) HA.out HGO.out)
              have HQ := hide (show ∀ i, i < j + 1 + 1 → gapB xs i = true from fun i hi => by
                by_cases e : i = j + 1
                · subst e; exact gap_none hltx hr0
                · exact HGP.out i (by omega))
              have HL := hide (last_none hltx hr0)
              rw [hr0] at l2
              clear R1o
              go_wp2
              go_roundw
              case rel => exact ⟨j + 1 + 1, by omega, by go_num, by rw [HL.out], HP.out, HQ.out, HX.out⟩
              case measure => simp [intOf]; omega
            · obtain ⟨m, hm⟩ : ∃ m, m + 1 = xs[j + 1].Remarks.length := ⟨xs[j + 1].Remarks.length - 1, by omega⟩
              have hr1 : 0 < xs[j + 1].Remarks.length := by omega
              obtain ⟨b2, off2, rfl, hb2, f0, f1, f2, f3⟩ := RemarkD.rd R1o (show xs[j + 1].Remarks[0]? = some xs[j + 1].Remarks[0] from List.getElem?_eq_getElem _)
              obtain ⟨b3, off3, e, hb3, g0, g1, g2, g3⟩ := RemarkD.rd R1o (show xs[j + 1].Remarks[m]? = some (xs[j + 1].Remarks[m]'(by omega)) from List.getElem?_eq_getElem _)
              injection e with e
              injection e with q1 q2
              subst q1 q2
              simp only [Nat.zero_mul, Nat.add_zero] at f0
              have HL0 := last_some hltx hm
              obtain ⟨z, hz⟩ : ∃ z, z = (xs[j + 1].Remarks[m]'(by omega)).Number := ⟨_, rfl⟩
              rw [← hz] at g0 HL0
              have HL := hide HL0
              have HM := hide hm
              rw [← hm] at l2
              have hm8 : m < 8 := by omega
              clear R1o f1 f2 f3 g1 g2 g3 HL0 hz hm
              by_cases hgp : lastTo xs (j + 1) < xs[j + 1].Remarks[0].Number
              · have HP := hide (good_step (k := j + 1) (ok := RunD.okB) (ge := RunD.geB) HA.out HGO.out)
                have HQ := hide (show ∀ i, i < j + 1 + 1 → gapB xs i = true from fun i hi => by
                  by_cases e : i = j + 1
                  · subst e; rw [gap_at hltx hr1]; exact decide_eq_true hgp
                  · exact HGP.out i (by omega))
                go_wp2
                go_roundw
                case rel => exact ⟨j + 1 + 1, by omega, by go_num, by rw [HL.out], HP.out, HQ.out, HX.out⟩
                case measure => simp [intOf]; omega
              · have HR := hide (runs_gap hltx (by rw [gap_at hltx hr1]; exact decide_eq_false hgp))
                go_wp2
                go_ret
                exact ⟨by rw [HR.out]; rfl, HX.out⟩
    · obtain rfl : k = n := by omega
      have HR := hide (show runsB xs = true by
        rw [runs_all (fun i hi => HA.out i (by rw [HN.out]; exact hi)) (fun i hi => HGP.out i (by rw [HN.out]; exact hi))]
        exact decide_eq_true (by have := HN.out; omega))
      go_wp2
      go_ret
      exact ⟨by rw [HR.out]; rfl, ⟨p, rfl⟩⟩

end Go.Proofs.Ytegehdhdlljikaa
