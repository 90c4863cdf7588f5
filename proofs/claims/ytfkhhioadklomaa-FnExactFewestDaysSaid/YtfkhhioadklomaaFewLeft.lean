/- The reference's search for the fewest days. Conditions: people and names are valid. -/
import Derived.Test.YtfkhhioadklomaaFewLaw
import Derived.Test.YtfkhhioadklomaaSearch
import Derived.Deep.RegionLaw
namespace Go.Proofs.Ytfkhhioadklomaa
set_option linter.unusedVariables false
open Go.RowKit

set_option maxHeartbeats 1600000 in
theorem c_l21Free (A0 : Option Addr) (c0 : Nat) (ps : List PersonD) (nm : ByteArray) (day : Int) (w : World) (hp : peopleB ps = true) (hA : RdPerson 0 w A0 ps) :
    Calls Try.prog 82 #[.slice A0 ps.length c0, .string nm, .int .i64 day] w fun e w' => e = .returned (.bool (freeN ps nm day)) ∧ IsX w w' := by
  obtain ⟨hl, hd⟩ := people_bd hp
  have HD := hide hd
  obtain ⟨n, hnn⟩ : ∃ n, n = ps.length := ⟨_, rfl⟩
  have HN := hide hnn
  have HA := hide hA
  rw [← hnn] at hl ⊢
  clear hnn hd hA hp
  go_enter Try.func82, Try.ntmps82
  go_wp2_with fail
  go_loopw [7] (fun iv wr => ∃ k : Nat, k ≤ n ∧ iv = .int .i64 k ∧ Hid (∀ i (h : i < ps.length), i < k → (ps[i].Name.toList == nm.toList) = false) ∧ IsX w wr) (fun iv _ => n - (intOf iv).toNat)
  case atStart => exact ⟨0, Nat.zero_le _, rfl, hide (fun i h hi => absurd hi (by omega)), IsX.refl _⟩
  case round =>
    obtain ⟨k, hk, rfl, HF, p, rfl⟩ := hrel
    by_cases hlt : k < n
    · have hkx : k < ps.length := HN.out ▸ hlt
      obtain ⟨b, off, qA, qC, e0, hb, k0, k1, hR⟩ := RdPerson.rd HA.out (show ps[k]? = some ps[k] from List.getElem?_eq_getElem _)
      obtain ⟨z1, z2⟩ := HD.out _ (List.getElem_mem hkx)
      have HR := hide hR
      subst e0
      clear hR z2
      cases hq : (ps[k].Name.toList == nm.toList)
      · have HF' := hide (step_all (p := fun x : PersonD => x.Name.toList == nm.toList) hkx HF.out hq)
        clear k1
        go_wp2_with fail
        go_roundw
        case rel => exact ⟨k + 1, by omega, by go_num, HF', ⟨p, rfl⟩⟩
        case measure => simp [intOf]; omega
      · have HZ := hide (freeN_at (d := day) k hkx HF.out hq)
        go_wp2_with fail
        refine (c_l00Has qA qC ps[k].Days day (xt w p) (by omega) (HR.out.x ⟨p, rfl⟩)).mono ?_
        rintro e w5 ⟨rfl, hx5⟩
        have HX := hide (IsX.trans ⟨p, rfl⟩ hx5)
        rw [← HZ.out]
        clear hx5
        go_wp2_with fail
        go_ret
        exact ⟨rfl, HX.out⟩
    · obtain rfl : k = n := by omega
      have HZ := hide (freeN_none (d := day) (fun i h => HF.out i h (by have := HN.out; omega)))
      go_wp2_with fail
      go_ret
      exact ⟨by rw [HZ.out]; rfl, ⟨p, rfl⟩⟩
def dayC (vp vn vd : Value) (m bud : Int) (vc : Value) (nodes : Int) : Array Value := #[vp, vn, vd, vc, .int .i64 m, .int .i64 nodes, .int .i64 bud]
def DayAt (X B : Nat) (vp vn vd : Value) (m bud : Int) (ch : List Int) (nodes : Int) (w : World) : Prop := ∃ Ac cc, Blk w X 65 (dayC vp vn vd m bud (.slice Ac ch.length cc) nodes) ∧ w.ownsRow B 2 1 (.slice Ac ch.length cc) ch.length (ch.flatMap intC)
theorem DayAt.x {X B : Nat} {vp vn vd : Value} {m bud : Int} {ch : List Int} {nodes : Int} {w w' : World} (h : DayAt X B vp vn vd m bud ch nodes w) (hx : IsX w w') : DayAt X B vp vn vd m bud ch nodes w' := by
  obtain ⟨Ac, cc, h1, h2⟩ := h
  exact ⟨Ac, cc, h1.x hx, own_x' h2 hx⟩
theorem cov_no {ps : List PersonD} {ns : List ByteArray} {ch : List Int} {i : Nat} (hi : i < ns.length) (h : ch.any (fun d => freeN ps ns[i] d) = false) : covN ps ns ch = false := by
  rw [covN, List.all_eq_false]
  exact ⟨ns[i], List.getElem_mem hi, by simpa using h⟩
theorem cov_yes {ps : List PersonD} {ns : List ByteArray} {ch : List Int} (h : ∀ i (hi : i < ns.length), ch.any (fun d => freeN ps ns[i] d) = true) : covN ps ns ch = true := by
  rw [covN, List.all_eq_true]
  intro x hx
  obtain ⟨i, hi, rfl⟩ := List.getElem_of_mem hx
  exact h i hi
set_option maxRecDepth 100000 in
set_option maxHeartbeats 6400000 in
theorem c_dayLeft (X B : Nat) (A0 : Option Addr) (c0 : Nat) (ps : List PersonD) (A1 : Option Addr) (c1 : Nat) (ns : List ByteArray) (vd : Value) (m bud : Int) (ch : List Int) (nodes : Int) (w : World) (hp : peopleB ps = true) (hns : ns.length ≤ 12) (hch : ch.length ≤ 12) (hA : RdPerson 0 w A0 ps) (hA1 : Rd strC 1 w A1 ns) (hat : DayAt X B (.slice A0 ps.length c0) (.slice A1 ns.length c1) vd m bud ch nodes w) :
    Calls Try.prog 63 #[.pointer (some ⟨X, 0, none⟩)] w fun e w' => e = .returned (.bool (!covN ps ns ch)) ∧ IsX w w' := by
  obtain ⟨Ac, cc, hX, hC⟩ := hat
  have HFREE := hide (fun (V : World) (hV : IsX w V) (nm : ByteArray) (d : Int) => c_l21Free A0 c0 ps nm d V hp (hA.x hV))
  have HA1 := hide hA1
  have HRC := hide (show Rd intC 1 w Ac ch from Own.rd (cells := intC) (k := 1) (by omega) intC_len hC rfl)
  have d0 := hX.cell 0
  have d1 := hX.cell 1
  have d3 := hX.cell 3
  have hlb := hX.lt
  simp [dayC] at d0 d1 d3
  obtain ⟨n, hn⟩ : ∃ n, n = ns.length := ⟨_, rfl⟩
  obtain ⟨q, hq⟩ : ∃ q, q = ch.length := ⟨_, rfl⟩
  obtain ⟨np, hnp⟩ : ∃ q, q = ps.length := ⟨_, rfl⟩
  have HN := hide hn
  have HQ := hide hq
  rw [← hnp] at d0 HFREE
  rw [← hn] at d1 hns
  rw [← hq] at d3 hch
  clear hn hq hnp hX hC hA hA1 hp
  go_enter Try.func63, Try.ntmps63
  go_wp2_with fail
  go_loopw [3] (fun iv wr => ∃ i : Nat, i ≤ n ∧ iv = .int .i64 i ∧ Hid (∀ j (h : j < ns.length), j < i → ch.any (fun d => freeN ps ns[j] d) = true) ∧ IsX w wr) (fun iv _ => n - (intOf iv).toNat)
  case atStart => exact ⟨0, Nat.zero_le _, rfl, hide (fun j h hj => by omega), IsX.refl _⟩
  case round =>
    obtain ⟨i, hi, rfl, HALL, p, rfl⟩ := hrel
    by_cases hlt : i < n
    · have hix : i < ns.length := HN.out ▸ hlt
      obtain ⟨b1, o1, e1, hb1, k1⟩ := str_rd HA1.out (show ns[i]? = some ns[i] from List.getElem?_eq_getElem _)
      subst e1
      have HNO := hide (fun h => cov_no (ps := ps) (ch := ch) hix h)
      have HST : Hid (ch.any (fun d => freeN ps ns[i] d) = true → ∀ j (h : j < ns.length), j < i + 1 → ch.any (fun d => freeN ps ns[j] d) = true) := hide (fun hy j h hj => by
        by_cases e : j = i
        · subst e; exact hy
        · exact HALL.out j h (by omega))
      generalize ns[i] = nm at k1 HNO HST
      go_wp2_with fail
      go_loopw [4, 5] (fun fv kv wr => ∃ k : Nat, k ≤ q ∧ kv = .int .i64 k ∧ fv = .bool ((ch.take k).any (fun d => freeN ps nm d)) ∧ IsX w wr) (fun _ kv _ => q - (intOf kv).toNat)
      case atStart => exact ⟨0, Nat.zero_le _, rfl, rfl, ⟨p, rfl⟩⟩
      case round =>
        obtain ⟨k, hk, rfl, rfl, p2, rfl⟩ := hrel
        by_cases hltk : k < q
        · have hkx : k < ch.length := HQ.out ▸ hltk
          obtain ⟨b2, o2, e2, hb2, k2⟩ := int_rd HRC.out (show ch[k]? = some ch[k] from List.getElem?_eq_getElem _)
          subst e2
          have HS := hide (any_take (p := fun d => freeN ps nm d) hkx)
          generalize ch[k] = cd at k2 HS
          cases hfr : (ch.take k).any (fun d => freeN ps nm d)
          · have HFR := hide hfr
            clear hfr
            go_wp2_with fail
            refine wp_region_x (by kernel_rfl) (by kernel_rfl) ?_
            repeat (go_big_quiet_step ((go_at_call 82; exact call_x (HFREE.out _ (IsX.xt ⟨p2, rfl⟩ _) nm cd))))
            refine wpQuiet_nil ?_
            rintro _ ⟨q2, rfl⟩
            go_wp2_with fail
            go_roundw
            case rel => exact ⟨k + 1, by omega, by go_num, by rw [HS.out, HFR.out]; rfl, IsX.xt ⟨p2, rfl⟩ q2⟩
            case measure => simp [intOf]; omega
          · have HFR := hide hfr
            clear hfr
            go_wp2_with fail
            refine wp_region_x (by kernel_rfl) (by kernel_rfl) ?_
            repeat (go_big_quiet_step (fail))
            refine wpQuiet_nil ?_
            rintro _ ⟨q2, rfl⟩
            go_wp2_with fail
            go_roundw
            case rel => exact ⟨k + 1, by omega, by go_num, by rw [HS.out, HFR.out]; rfl, IsX.xt ⟨p2, rfl⟩ q2⟩
            case measure => simp [intOf]; omega
        · obtain rfl : k = q := by omega
          have HT := hide (show ch.take k = ch by rw [HQ.out]; exact List.take_length)
          rw [HT.out]
          cases hfr : ch.any (fun d => freeN ps nm d)
          · have HF := hide (HNO.out hfr)
            clear hfr
            go_wp2_with fail
            go_ret
            exact ⟨by rw [HF.out]; rfl, ⟨p2, rfl⟩⟩
          · have HF := hide (HST.out hfr)
            clear hfr
            go_wp2_with fail
            go_roundw
            case rel => exact ⟨i + 1, by omega, by go_num, HF, ⟨p2, rfl⟩⟩
            case measure => simp [intOf]; omega
    · obtain rfl : i = n := by omega
      have HF := hide (cov_yes (ps := ps) (ns := ns) (ch := ch) (fun j h => HALL.out j h (by have := HN.out; omega)))
      go_wp2_with fail
      go_ret
      exact ⟨by rw [HF.out]; rfl, ⟨p, rfl⟩⟩
end Go.Proofs.Ytfkhhioadklomaa
