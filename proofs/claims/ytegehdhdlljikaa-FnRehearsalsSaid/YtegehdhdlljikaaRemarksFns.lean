/- The open remarks: what the reference and the program compute. Conditions: lists no longer than 2^40. -/
import Derived.Test.YtegehdhdlljikaaRunsFns
import Derived.Test.YtegehdhdlljikaaOwn
import Derived.Test.YtegehdhdlljikaaMarks
namespace Go.Proofs.Ytegehdhdlljikaa
set_option linter.unusedVariables false
open Go.RowKit

def openOf (x : RunD) : List RemarkD := x.Remarks.filter fun y => !y.Done
def openRs (xs : List RunD) : List RemarkD := xs.flatMap openOf
/-- .. of the first k runs and the first m remarks of run number k -/
def openAt (xs : List RunD) (k m : Nat) : List RemarkD := openRs (xs.take k) ++ (match xs[k]? with | some x => (x.Remarks.take m).filter (fun y => !y.Done) | none => [])
theorem at_zero (xs : List RunD) (k : Nat) : openAt xs k 0 = openRs (xs.take k) := by
  unfold openAt
  cases xs[k]? <;> simp
theorem at_end {xs : List RunD} {k : Nat} (h : k < xs.length) : openAt xs k xs[k].Remarks.length = openRs (xs.take (k + 1)) := by
  unfold openAt
  rw [List.getElem?_eq_getElem h, List.take_succ_eq_append_getElem h]
  simp only [openRs, List.flatMap_append, List.flatMap_cons, List.flatMap_nil, List.append_nil, openOf, List.take_length]
theorem at_yes {xs : List RunD} {k m : Nat} (h : k < xs.length) (hm : m < xs[k].Remarks.length) (hd : xs[k].Remarks[m].Done = false) : openAt xs k (m + 1) = openAt xs k m ++ [xs[k].Remarks[m]] := by
  unfold openAt
  rw [List.getElem?_eq_getElem h]
  simp only [List.take_succ_eq_append_getElem hm, List.filter_append, List.append_assoc]
  simp [hd]
theorem at_no {xs : List RunD} {k m : Nat} (h : k < xs.length) (hm : m < xs[k].Remarks.length) (hd : xs[k].Remarks[m].Done = true) : openAt xs k (m + 1) = openAt xs k m := by
  unfold openAt
  rw [List.getElem?_eq_getElem h]
  simp only [List.take_succ_eq_append_getElem hm, List.filter_append]
  simp [hd]
theorem good_all {p : RunD → Bool} {ge : RunD → RunD → Bool} {xs : List RunD} (h : allGood p ge xs = true) : ∀ x ∈ xs, p x = true := allGood_ok h
theorem runs_bd {xs : List RunD} (h : runsB xs = true) : xs.length ≤ 16 ∧ ∀ x ∈ xs, x.Remarks.length ≤ 8 := by
  simp only [runsB, Bool.and_eq_true, decide_eq_true_eq] at h
  exact ⟨h.1.1, fun x hx => (ok_parts (good_all h.1.2 x hx)).2.1⟩
theorem openRs_len : ∀ (xs : List RunD), (∀ x ∈ xs, x.Remarks.length ≤ 8) → (openRs xs).length ≤ xs.length * 8
  | [], _ => by simp [openRs]
  | x :: xs, h => by
    have ih := openRs_len xs (fun y hy => h y (List.mem_cons_of_mem _ hy))
    have h1 : (openOf x).length ≤ 8 := Nat.le_trans (List.length_filter_le _ _) (h x List.mem_cons_self)
    simp only [openRs, List.flatMap_cons, List.length_append, List.length_cons] at ih ⊢
    omega
def openZ (xs : List RunD) : List RemarkD := if runsB xs = true then openRs xs else []
def openC (xs : List RunD) : Int := if runsB xs = true then 0 else 1
theorem openZ_len (xs : List RunD) : (openZ xs).length ≤ 1099511627776 := by
  unfold openZ
  split
  · rename_i h
    have h1 := runs_bd h
    have h2 := openRs_len xs h1.2
    omega
  · simp
theorem remark_reads (w : World) (x : RemarkD) : Reads (w.alloc (.cells #[.int .i64 x.Number, .string x.Who, .string x.Cue, .bool x.Done] 28)) (w.alloc (.cells #[.int .i64 x.Number, .string x.Who, .string x.Cue, .bool x.Done] 28)).heap.size 4 (some ⟨w.heap.size, 0, none⟩) 1 x.cells := by
  have h := Rd.reads (cells := RemarkD.cells) (xs := [x]) (by omega) RemarkD.cells_len (Blk.rd (cells := RemarkD.cells) (xs := [x]) (t := 28) RemarkD.cells_len (Blk.new w 28 #[.int .i64 x.Number, .string x.Who, .string x.Cue, .bool x.Done]))
  simpa using h
theorem remark_one (xs : List RemarkD) : ∀ u ∈ xs.flatMap RemarkD.cells, u.oneCell' = true := by
  intro u hu
  rw [List.mem_flatMap] at hu
  obtain ⟨x, _, hx⟩ := hu
  simp only [RemarkD.cells, List.mem_cons, List.not_mem_nil, or_false] at hx
  rcases hx with rfl | rfl | rfl | rfl <;> rfl
theorem row_slice4 {w : World} {base e size n : Nat} {v : Value} {L : List Value} (h : w.ownsRow base e size v n L) : ∃ A c, v = .slice A n c := by
  rcases h.2 with ⟨rfl, rfl⟩ | ⟨g, cap, cur, hv, _⟩
  · exact ⟨none, 0, rfl⟩
  · exact ⟨_, _, hv⟩

set_option maxHeartbeats 3200000 in
set_option maxRecDepth 100000 in
theorem c_openRemarks (A0 : Option Addr) (c0 : Nat) (xs : List RunD) (w : World) (hv : runsB xs = true) (hA : RdRun 0 w A0 xs) :
    Calls Try.prog 20 #[.slice A0 xs.length c0] w fun e w' => ∃ A c, e = .returned (.slice A (openRs xs).length c) ∧ Own RemarkD.cells 4 28 w' w.heap.size (.slice A (openRs xs).length c) (openRs xs) ∧ IsX w w' := by
  obtain ⟨hl16, hrm⟩ := runs_bd hv
  have HRM := hide hrm
  have HI := hide (info_parts Remark_info)
  obtain ⟨n, hnn⟩ : ∃ n, n = xs.length := ⟨_, rfl⟩
  have HN := hide hnn
  rw [← hnn] at hl16 ⊢
  clear hnn hrm hv
  go_enter Try.func20, Try.ntmps20
  go_wp2
  go_loopw [3, 10] (fun ov iv wr => ∃ (k l : Nat), k ≤ n ∧ l ≤ k * 8 ∧ iv = .int .i64 k ∧ Hid (l = (openRs (xs.take k)).length) ∧ Hid (wr.ownsRow w.heap.size 28 4 ov l ((openRs (xs.take k)).flatMap RemarkD.cells)) ∧ IsX w wr) (fun _ iv _ => n - (intOf iv).toNat)
  case atStart => exact ⟨0, 0, Nat.zero_le _, Nat.le_refl _, rfl, hide (by simp [openRs]), hide (by simp only [List.take_zero, openRs, List.flatMap_nil]; exact World.ownsRow_nil _ _ _ _), IsX.refl w⟩
  case round =>
    obtain ⟨k, l, hk, hlk, rfl, HL, HO, p, rfl⟩ := hrel
    by_cases hlt : k < n
    · have hltx : k < xs.length := HN.out ▸ hlt
      obtain ⟨b, off, qA, rA, qC, rC, rfl, hb, d0, d1, d2, hR0, hR1⟩ := RdRun.rd hA (show xs[k]? = some xs[k] from List.getElem?_eq_getElem _)
      have hsm := HRM.out _ (List.getElem_mem hltx)
      have HR1 := hide hR1
      obtain ⟨len, hlen⟩ : ∃ len, len = xs[k].Remarks.length := ⟨_, rfl⟩
      have HLN := hide hlen
      rw [← hlen] at d2 hsm
      have HL0 := hide (show l = (openAt xs k 0).length by rw [at_zero]; exact HL.out)
      have HO0 := hide (show (xt w p).ownsRow w.heap.size 28 4 _ l ((openAt xs k 0).flatMap RemarkD.cells) by rw [at_zero]; exact HO.out)
      clear hA hlen hR0 hR1 HL HO
      go_wp2
      go_loopw [3, 17] (fun ov jv wr => ∃ m l' : Nat, m ≤ len ∧ l' ≤ k * 8 + m ∧ jv = .int .i64 m ∧ Hid (l' = (openAt xs k m).length) ∧ Hid (wr.ownsRow w.heap.size 28 4 ov l' ((openAt xs k m).flatMap RemarkD.cells)) ∧ IsX w wr) (fun _ jv _ => len - (intOf jv).toNat)
      case atStart => exact ⟨0, l, Nat.zero_le _, by omega, rfl, HL0, hide (own_x HO0.out ((IsX.refl _).alloc _)), IsX.alloc ⟨p, rfl⟩ _⟩
      case round =>
        clear HO0 HL0
        obtain ⟨m, l, hm, hlm, rfl, HL, HO, p, rfl⟩ := hrel
        by_cases hml : m < len
        · have hmx : m < xs[k].Remarks.length := HLN.out ▸ hml
          obtain ⟨b2, off2, rfl, hb2, f0, f1, f2, f3⟩ := RemarkD.rd HR1.out (show xs[k].Remarks[m]? = some xs[k].Remarks[m] from List.getElem?_eq_getElem _)
          clear HR1
          cases hd : xs[k].Remarks[m].Done
          · have HY := hide (at_yes hltx hmx hd)
            have hdn : (!xs[k].Remarks[m].Done) = true := by rw [hd]; rfl
            clear hd
            have HSZ := hide (size_xt w p)
            go_wp2_with (at_builtin; obtain ⟨i0, hi0, hz0, hz1, hz2⟩ := HI.out; refine wpList_append_any _ rfl (.tmp 24) (.tmp 26) _ rfl w.heap.size 28 i0 _ 4 48 Try.underlying29 hi0 hz0 hz1 hz2 rfl (by omega) _ l ((openAt xs k m).flatMap RemarkD.cells) rfl ((own_x HO.out ((IsX.refl _).alloc _)).alloc _) _ (some ⟨(xt w p).heap.size + 1, 0, none⟩) 1 1 xs[k].Remarks[m].cells rfl (by have h := remark_reads ((xt w p).alloc (.cells #[.int .i64 xs[k].Remarks[m].Number, .string xs[k].Remarks[m].Who, .string xs[k].Remarks[m].Cue, .bool xs[k].Remarks[m].Done] 28)) xs[k].Remarks[m]; rwa [show ((xt w p).alloc (.cells #[.int .i64 xs[k].Remarks[m].Number, .string xs[k].Remarks[m].Who, .string xs[k].Remarks[m].Cue, .bool xs[k].Remarks[m].Done] 28)).heap.size = (xt w p).heap.size + 1 from by simp] at h) (fun u hu => remark_one [xs[k].Remarks[m]] u (by simpa using hu)) (by simp only [maxLen]; omega) (by omega) (by have := HSZ.out; simp; omega) ?_; clear hi0 hz0 hz1 hz2; intro v1 w2 hown1 hg1 hat1; have HO1 := hide hown1; have hx1 : IsX w w2 := IsX.grown (IsX.alloc (w' := ((xt w p).alloc (.cells #[.int .i64 xs[k].Remarks[m].Number, .string xs[k].Remarks[m].Who, .string xs[k].Remarks[m].Cue, .bool xs[k].Remarks[m].Done] 28))) (IsX.alloc ⟨p, rfl⟩ _) _) hg1 (by intro z hz; exact (HO.out.lt z hz).1); clear hown1 hg1 hat1; obtain ⟨p1, rfl⟩ := hx1)
            go_roundw
            case rel => exact ⟨m + 1, l + 1, by omega, by omega, by go_num, hide (by rw [HY.out, HL.out]; simp), hide (by rw [HY.out, List.flatMap_append]; have h := HO1.out; simpa using h), ⟨p1, rfl⟩⟩
            case measure => simp [intOf]; omega
          · have HY := hide (at_no hltx hmx hd)
            have hdn : (!xs[k].Remarks[m].Done) = false := by rw [hd]; rfl
            clear hd
            go_wp2
            go_roundw
            case rel => exact ⟨m + 1, l, by omega, by omega, by go_num, hide (by rw [HY.out]; exact HL.out), hide (by rw [HY.out]; exact (own_x HO.out ((IsX.refl _).alloc _))), IsX.alloc ⟨p, rfl⟩ _⟩
            case measure => simp [intOf]; omega
        · obtain rfl : m = len := by omega
          have HE := hide (show openAt xs k m = openRs (xs.take (k + 1)) by rw [HLN.out]; exact at_end hltx)
          go_wp2
          go_roundw
          case rel => exact ⟨k + 1, l, by omega, by omega, by go_num, hide (by rw [← HE.out]; exact HL.out), hide (by rw [← HE.out]; exact HO.out), ⟨p, rfl⟩⟩
          case measure => simp [intOf]; omega
    · obtain rfl : k = n := by omega
      have HTT := hide (show xs.take k = xs by rw [HN.out]; exact List.take_length)
      obtain ⟨A', c', hform⟩ := row_slice4 HO.out
      subst hform
      have HLL := hide (show l = (openRs xs).length by rw [HL.out, HTT.out])
      have HOO := hide (show (xt w p).ownsRow w.heap.size 28 4 (.slice A' l c') l ((openRs xs).flatMap RemarkD.cells) by have := HO.out; rwa [HTT.out] at this)
      clear hA
      go_wp2_with fail
      go_ret
      refine ⟨A', c', by rw [← HLL.out]; rfl, ?_, ⟨p, rfl⟩⟩
      have h := HOO.out
      unfold Own
      rw [← HLL.out]
      exact h

set_option maxHeartbeats 800000 in
theorem i_OpenRemarks (A0 : Option Addr) (c0 : Nat) (xs0 : List RunD) (w : World) (hn0 : xs0.length ≤ 1099511627776) (hw0 : ∀ x ∈ xs0, x.wf) (hs0 : ∀ x ∈ xs0, x.small 1099511627776) (hA0 : RdRun 0 w A0 xs0) :
    Calls Try.prog 7 #[.slice A0 xs0.length c0] w (SlPost RemarkD.cells 4 28 w (openZ xs0) (openC xs0)) := by
  cases hv : runsB xs0
  · have HZ := hide (show openZ xs0 = [] by simp [openZ, hv])
    have HC := hide (show openC xs0 = 1 by simp [openC, hv])
    go_enter Try.func7, Try.ntmps7
    go_wp2_with fail
    refine (cb (c_ValidRuns A0 c0 xs0 w hn0 hw0 hs0 hA0) hv).mono ?_
    rintro e w1 ⟨rfl, hx⟩
    go_wp2_with fail
    go_ret2
    exact SlPost.none HZ.out (by rw [HC.out]; rfl) hx
  have HZ := hide (show openZ xs0 = openRs xs0 by simp [openZ, hv])
  have HC := hide (show openC xs0 = 0 by simp [openC, hv])
  have HV := hide hv
  go_enter Try.func7, Try.ntmps7
  go_wp2_with fail
  refine (cb (c_ValidRuns A0 c0 xs0 w hn0 hw0 hs0 hA0) hv).mono ?_
  rintro e w1 ⟨rfl, hx⟩
  go_wp2_with fail
  refine (c_openRemarks A0 c0 xs0 w1 HV.out (hA0.x hx)).mono ?_
  rintro e w2 ⟨A, c, rfl, hO, hx2⟩
  have HO := hide hO
  clear hO
  go_wp2_with fail
  go_ret2
  refine ⟨A, c, by rw [HC.out, HZ.out]; rfl, ?_, hx.trans hx2⟩
  rw [HZ.out]
  exact HO.out.mono hx.size

end Go.Proofs.Ytegehdhdlljikaa
