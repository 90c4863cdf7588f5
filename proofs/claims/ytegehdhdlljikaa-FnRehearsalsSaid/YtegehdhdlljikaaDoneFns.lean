/- DoneRemark: what the reference and the program compute. Conditions: those of the row alone. -/
import Derived.Test.YtegehdhdlljikaaDoneLaw
import Derived.Test.YtegehdhdlljikaaRunClone
import Derived.Test.YtegehdhdlljikaaLInt64
namespace Go.Proofs.Ytegehdhdlljikaa
set_option linter.unusedVariables false
open Go.RowKit

theorem runs_parts {xs : List RunD} (h : runsB xs = true) : xs.length ≤ 16 ∧ ∀ x ∈ xs, x.Cues.length ≤ 32 ∧ x.Remarks.length ≤ 8 := by
  simp only [runsB, Bool.and_eq_true, decide_eq_true_eq] at h
  exact ⟨h.1.1, fun x hx => by have := ok_parts (allGood_ok h.1.2 x hx); exact ⟨this.1, this.2.1⟩⟩
theorem runs_small {xs : List RunD} (h : runsB xs = true) : ∀ x ∈ xs, x.small 1048576 := fun x hx => by
  have := (runs_parts h).2 x hx
  simp only [RunD.small]; omega
theorem rem_done {ys : List RemarkD} {k : Nat} (hk : k < ys.length) : (ys.set k { ys[k] with Done := true }).flatMap RemarkD.cells = (ys.flatMap RemarkD.cells).set (k * 4 + 3) (.bool true) :=
  flat_set_at (cells := RemarkD.cells) (y := { ys[k] with Done := true }) (u := .bool true) RemarkD.cells_len (j := 3) hk rfl (by omega)
theorem of_done {e : RunE} {x : RunD} {k : Nat} (h : e.of x) (hk : k < x.Remarks.length) : RunE.of { e with rl := e.rl.set (k * 4 + 3) (.bool true) } { x with Remarks := x.Remarks.set k { x.Remarks[k] with Done := true } } :=
  ⟨h.day, h.cn, h.cl, by simp only [List.length_set]; exact h.rn, by simp only; rw [rem_done hk, h.rl]⟩

set_option maxRecDepth 100000 in
set_option maxHeartbeats 6400000 in
theorem i_DoneRemark (A0 : Option Addr) (c0 : Nat) (xs0 : List RunD) (n1 : Int) (w : World) (hn0 : xs0.length ≤ 1099511627776) (hw0 : ∀ x ∈ xs0, x.wf) (hs0 : ∀ x ∈ xs0, x.small 1099511627776) (hA0 : RdRun 0 w A0 xs0) (hb1 : intWf n1) :
    Calls Try.prog 11 #[.slice A0 xs0.length c0, .int .i64 n1] w (NePost w (doneZ xs0 n1) (doneC xs0 n1)) := by
  have HOKC := hide (c_ValidRuns A0 c0 xs0 w hn0 hw0 hs0 hA0)
  cases hv : runsB xs0
  · have HR := hide (done_bad (m := n1) hv)
    go_enter Try.func11, Try.ntmps11
    go_wp2_with fail
    refine (cb HOKC.out hv).mono ?_
    rintro e w1 ⟨rfl, hx⟩
    go_wp2_with fail
    go_ret2
    exact NePost.none HR.out.1 (by rw [HR.out.2]; rfl) hx
  have HV := hide hv
  obtain ⟨hn16, hpa⟩ := runs_parts hv
  have HPA := hide hpa
  have HOWN := hide (fun (V : World) (hV : IsX w V) => c_cloneRuns A0 c0 xs0 V (by omega) (runs_small hv) (hA0.x hV))
  have HOK := hide (cb HOKC.out hv)
  obtain ⟨n, hnn⟩ : ∃ n, n = xs0.length := ⟨_, rfl⟩
  have HN := hide hnn
  rw [← hnn] at hn0 hn16 HOWN HOK ⊢
  clear hnn hv hpa hw0 hs0 hA0 hb1 HOKC
  go_enter Try.func11, Try.ntmps11
  go_wp2_with fail
  refine HOK.out.mono ?_
  rintro e w1 ⟨rfl, hx⟩
  have HX1 := hide hx
  clear hx HOK
  go_wp2_with fail
  refine (HOWN.out w1 HX1.out).mono ?_
  rintro e w2 ⟨A2, c2, es, rfl, hR, hO, hx2⟩
  have HX2 := hide (HX1.out.trans hx2)
  have HR := hide (hR.mono HX1.out.size)
  have HO := hide hO
  have HEL := hide (show es.length = n by rw [hO.len, HN.out])
  clear hR hO hx2 HOWN
  go_wp2_with fail
  go_loopw [17] (fun iv wr => ∃ i : Nat, i ≤ n ∧ iv = .int .i64 i ∧ Hid (∀ j (h : j < xs0.length), j < i → doneR xs0[j].Remarks n1 = none) ∧ IsX w2 wr) (fun iv _ => n - (intOf iv).toNat)
  case atStart => exact ⟨0, Nat.zero_le _, rfl, hide (fun j h hj => by omega), IsX.refl _⟩
  case round =>
    obtain ⟨i, hi, rfl, HB, p, rfl⟩ := hrel
    by_cases hlt : i < n
    · have hix : i < xs0.length := HN.out ▸ hlt
      have hie : i < es.length := by rw [HEL.out]; exact hlt
      obtain ⟨-, g, rfl⟩ := HR.out.form (by omega)
      obtain ⟨E, hE⟩ : ∃ E, es[i]? = some E := ⟨_, List.getElem?_eq_getElem hie⟩
      have hof : E.of xs0[i] := by have := HO.out.at_ i hie hix; rw [List.getElem?_eq_getElem hie] at hE; injection hE with hE; rw [← hE]; exact this
      obtain ⟨dy, ca, cn, cc, cl, ra, rn, rc, rl⟩ := E
      obtain ⟨dz, hdz⟩ : ∃ d, d = xs0[i].Day := ⟨_, rfl⟩
      have hdy : dy = .int .i64 dz := by rw [hdz]; exact hof.day
      subst hdy
      clear hdz
      obtain ⟨hgb, hgl, d0, d1, d2, hz⟩ := HR.out.cells' hE
      have hrem := HR.out.rem _ (List.mem_of_getElem? hE)
      simp only [RunE.cv, RunE.rv] at d0 d1 d2 hrem
      have HE := hide hE
      have HOF := hide hof
      have HREM := hide hrem
      have hrn : rn = xs0[i].Remarks.length := hof.rn
      have hrl : rl = xs0[i].Remarks.flatMap RemarkD.cells := hof.rl
      have hr8 : rn ≤ 8 := by rw [hrn]; exact (HPA.out _ (List.getElem_mem hix)).2
      have HRN := hide hrn
      have HRD := hide (show Rd RemarkD.cells 4 w2 ra xs0[i].Remarks from Own.rd (cells := RemarkD.cells) (k := 4) (t := 28) (base := w.heap.size) (n := rn) (c := rc) (by omega) RemarkD.cells_len (by have h := hrem; rw [hrl] at h; unfold Own; rw [← hrn]; exact h) hrn)
      clear hE hof hrem hrn hrl hz
      go_wp2_with fail
      generalize hV2 : World.alloc (xt w2 p) _ = V2
      have hK : Blk V2 (xt w2 p).heap.size 31 #[.int .i64 dz, .slice ca cn cc, .slice ra rn rc] := by rw [← hV2]; exact Blk.new _ _ _
      have HXV := hide (show IsX w2 V2 by rw [← hV2]; exact IsX.alloc ⟨p, rfl⟩ _)
      generalize (xt w2 p).heap.size = B at hK ⊢
      have e2 := hK.cell 2
      simp at e2
      have hbb := hK.lt
      clear hK hV2 d0 d1 d2
      go_wp2_with fail
      go_loopw [24] (fun kv wr => ∃ k : Nat, k ≤ rn ∧ kv = .int .i64 k ∧ Hid (∀ j (h : j < xs0[i].Remarks.length), j < k → xs0[i].Remarks[j].Number ≠ n1) ∧ IsX V2 wr) (fun kv _ => rn - (intOf kv).toNat)
      case atStart => exact ⟨0, Nat.zero_le _, rfl, hide (fun j h hj => by omega), IsX.refl _⟩
      case round =>
        obtain ⟨k, hk, rfl, HBK, q, rfl⟩ := hrel
        have HXQ := hide (show IsX w2 (xt V2 q) from HXV.out.trans ⟨q, rfl⟩)
        by_cases hltk : k < rn
        · have hkx : k < xs0[i].Remarks.length := HRN.out ▸ hltk
          obtain ⟨gr, hgr⟩ := ownsRow_form' HREM.out (by omega)
          subst hgr
          obtain ⟨b', off', e, hb', f0, f1, f2, f3⟩ := RemarkD.rd (HRD.out.x HXQ.out) (show xs0[i].Remarks[k]? = some xs0[i].Remarks[k] from List.getElem?_eq_getElem _)
          injection e with e
          injection e with ee1 ee2
          subst ee1 ee2
          have HHIT := hide (fun h1 h2 => done_hit (xs := xs0) (m := n1) (i := i) (k := k) HV.out hix hkx HB.out h1 h2)
          have HOFD := hide (of_done HOF.out hkx)
          have zr : (xt V2 q).frozen? ⟨gr, k * 4 + 3, none⟩ = false := (own_x HREM.out HXQ.out).frozenAt _
          have HNE : Hid (xs0[i].Remarks[k].Number ≠ n1 → ∀ j (h : j < xs0[i].Remarks.length), j < k + 1 → xs0[i].Remarks[j].Number ≠ n1) := hide (fun hne j h hj => by
            by_cases e : j = k
            · subst e; exact hne
            · exact HBK.out j h (by omega))
          have HDN := hide (fun (he : xs0[i].Remarks[k].Number = n1) => HHIT.out HBK.out he)
          simp only [Nat.zero_add] at f0 f1 f2 f3
          generalize xs0[i].Remarks[k] = x at f0 f1 f2 f3 HDN HNE HOFD
          by_cases he : x.Number = n1
          · obtain ⟨hd1, hd2⟩ := HDN.out he
            have hq : (x.Number == n1) = true := by simp only [beq_iff_eq]; exact he
            cases hd : x.Done
            · have HF := hide (hd2 hd)
              rw [hd] at f3
              clear hd1 hd2 he hd
              go_wp2_with fail
              go_ret2
              have hown := own_x HREM.out HXQ.out
              have hbk := (hown.lt gr rfl).1
              have hset := own_set hown (show k * 4 + 3 < rl.length by rw [hown.1]; omega) (.bool true)
              have hrr := (HR.out.x HXQ.out).putR' HE.out (gr_set' (xt V2 q) gr (k * 4 + 3) (.bool true)) hset
              have hzl : (doneZ xs0 n1).length = n := by rw [HF.out.1, List.length_set]; exact HN.out.symm
              refine ⟨some ⟨g, 0, none⟩, c2, es.set i ⟨.int .i64 dz, ca, cn, cc, cl, some ⟨gr, 0, none⟩, rn, rc, rl.set (k * 4 + 3) (.bool true)⟩, ?_, by rw [hzl]; exact hrr, ?_, IsX.setCell (HX2.out.trans HXQ.out) hbk _⟩
              · rw [hzl, HF.out.2]; rfl
              · rw [HF.out.1]; exact HO.out.set HOFD.out
            · have HF := hide (hd1 hd)
              rw [hd] at f3
              clear hd1 hd2 he hd
              go_wp2_with fail
              go_ret2
              exact NePost.none HF.out.1 (by rw [HF.out.2]; rfl) (HX2.out.trans HXQ.out)
          · have hq : (x.Number == n1) = false := by simp only [beq_eq_false_iff_ne, ne_eq]; exact he
            have HNE2 := hide (HNE.out he)
            clear he
            go_wp2_with fail
            go_roundw
            case rel => exact ⟨k + 1, by omega, by go_num, HNE2, ⟨q, rfl⟩⟩
            case measure => simp [intOf]; omega
        · obtain rfl : k = rn := by omega
          have HNO := hide (doneR_none (m := n1) (xs := xs0[i].Remarks) (fun j h => HBK.out j h (by have := HRN.out; omega)))
          have HB2 := hide (show ∀ j (h : j < xs0.length), j < i + 1 → doneR xs0[j].Remarks n1 = none from fun j h hj => by
            by_cases e : j = i
            · subst e; exact HNO.out
            · exact HB.out j h (by omega))
          go_wp2_with fail
          go_roundw
          case rel => exact ⟨i + 1, by omega, by go_num, HB2, HXQ.out⟩
          case measure => simp [intOf]; omega
    · obtain rfl : i = n := by omega
      have HF := hide (done_none (m := n1) HV.out (fun j h => HB.out j h (by have := HN.out; omega)))
      go_wp2_with fail
      go_ret2
      exact NePost.none HF.out.1 (by rw [HF.out.2]; rfl) (HX2.out.trans ⟨p, rfl⟩)
end Go.Proofs.Ytegehdhdlljikaa
