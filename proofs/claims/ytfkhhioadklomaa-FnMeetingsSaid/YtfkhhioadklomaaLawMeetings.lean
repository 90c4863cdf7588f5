/- FnMeetings: the walk through the law's own text. Conditions: those of the row's arguments alone. -/
import Derived.Test.YtfkhhioadklomaaCountFns
import Derived.Test.YtfkhhioadklomaaMeetFnLaw
import Derived.Test.YtfkhhioadklomaaMeetDays
import Derived.Test.YtfkhhioadklomaaFewTop
import Derived.Deep.DeepCutAuto
namespace Go.Proofs.Ytfkhhioadklomaa
set_option linter.unusedVariables false
open Go.RowKit

theorem ndStr_one (x : ByteArray) : ∀ u ∈ [Value.string x], u.oneCell' = true := by
  intro u hu
  simp only [List.mem_singleton] at hu
  subst hu; rfl
theorem ndStr_reads (w : World) (t : Nat) (u : ByteArray) : Reads (w.alloc (.cells #[.string u] t)) (w.alloc (.cells #[.string u] t)).heap.size 1 (some ⟨w.heap.size, 0, none⟩) 1 [.string u] :=
  Rd.reads (cells := strC) (xs := [u]) (by omega) strC_len (Blk.rd (cells := strC) (xs := [u]) (t := t) strC_len (Blk.new w t #[.string u]))
theorem ndString_info : (Try.prog.info? 9).map (fun i => (i.zero, i.size, i.bytes)) = some (some (.string ByteArray.empty), 1, 16) := by kernel_rfl
theorem nd_form {w : World} {base e size n : Nat} {v : Value} {L : List Value} (h : w.ownsRow base e size v n L) : ∃ A c, v = .slice A n c ∧ n ≤ c := by
  rcases h.2 with ⟨rfl, rfl⟩ | ⟨g, cap, cur, hv, _, _, h1, _⟩
  · exact ⟨none, 0, rfl, Nat.le_refl _⟩
  · exact ⟨_, cap, hv, h1⟩
theorem Rd.one {w : World} {b off i : Nat} {xs : List ByteArray} (h : Rd strC 1 w (some ⟨b, off, none⟩) xs) {x : ByteArray} (hx : xs[i]? = some x) : Rd strC 1 w (some ⟨b, off + i, none⟩) [x] := fun j z hz => by
  have e : j = 0 := by
    have := (List.getElem?_eq_some_iff.1 hz).1
    simp at this; omega
  subst e
  simp only [List.getElem?_cons_zero, Option.some.injEq] at hz
  subst hz
  obtain ⟨b', off', e, hb, hc⟩ := h i x hx
  injection e with e
  injection e with e1 e2
  subst e1 e2
  refine ⟨_, _, rfl, hb, fun j u hu => ?_⟩
  have := hc j u hu
  rw [show off + i + 0 * 1 + j = off + i * 1 + j by omega]
  exact this
def anyTo (ps : List PersonD) (nm : ByteArray) (zs : List Int) (k : Nat) : Bool := (zs.take k).any (fun d => decide (onTo ps [nm] d ps.length = 1))
theorem any_succ {ps : List PersonD} {nm : ByteArray} {zs : List Int} {k : Nat} (h : k < zs.length) : anyTo ps nm zs (k + 1) = (anyTo ps nm zs k || decide (onTo ps [nm] zs[k] ps.length = 1)) := by
  unfold anyTo
  rw [List.take_succ_eq_append_getElem h, List.any_append]; simp
set_option maxHeartbeats 12800000 in
set_option maxRecDepth 100000 in
theorem law_FnMeetings (A : Option Addr) (c : Nat) (bs : List Int) (B : Option Addr) (c' : Nat) (ms : List Int) (w : World) (hn : bs.length ≤ maxLen) (hb : ∀ x ∈ bs, byteWf x) (hA : Rd byteC 1 w A bs) (hn' : ms.length ≤ maxLen) (hb' : ∀ x ∈ ms, byteWf x) (hB : Rd byteC 1 w B ms) :
    Calls Try.prog 5 #[.slice A bs.length c, .slice B ms.length c'] w fun e w' => e = .returned (.bool true) ∧ IsX w w' := by
  by_cases hl : 1048576 < bs.length ∨ 1048576 < ms.length
  · generalize bs.length = n at hl hn ⊢
    generalize ms.length = n' at hl hn' ⊢
    unfold maxLen at hn hn'
    have hd : (decide ((n : Int) > 1048576) || decide ((n' : Int) > 1048576)) = true := by
      simp only [Bool.or_eq_true, decide_eq_true_eq]; omega
    have HL := hide (cb (c_r8Long A n c B n' c' w) hd)
    clear hd hl hn hn'
    go_enter Try.func5, Try.ntmps5
    go_wp2_with fail
    refine HL.out.mono ?_
    rintro e w' ⟨rfl, rfl⟩
    go_wp2_with fail
    go_ret
    exact ⟨rfl, IsX.refl _⟩
  have hd : (decide ((bs.length : Int) > 1048576) || decide ((ms.length : Int) > 1048576)) = false := by
    simp only [Bool.or_eq_false_iff, decide_eq_false_iff_not]; omega
  have HR0 := hide (c_R8People A c bs w (by omega) hb hA)
  have HA0 := hide (fun (V : World) (hV : IsX w V) (k : Int) (hk : 0 ≤ k) => c_r8At B c' ms k 2 V hk (by omega) (by omega) (by omega) hb' (hB.x hV))
  have HL := hide (fun (V : World) => cb (c_r8Long A bs.length c B ms.length c' V) hd)
  generalize bs.length = bl at HR0 HL ⊢
  generalize ms.length = ml at HA0 HL ⊢
  have HI := hide (info_parts ndString_info)
  clear hn hb hA hn' hb' hB hd hl
  go_enter Try.func5, Try.ntmps5
  go_wp2_with fail
  refine (HL.out w).mono ?_
  rintro e w' ⟨rfl, rfl⟩
  clear HL
  go_wp2_with fail
  refine HR0.out.mono ?_
  rintro e w1 ⟨A1, c1, ps, rfl, hps, hrd, hx⟩
  have HX1 := hide hx
  have HRD := hide hrd
  have HPS := hide hps
  have hp5 := hps.2.1
  obtain ⟨n, hnn⟩ : ∃ n, n = ps.length := ⟨_, rfl⟩
  have HN := hide hnn
  rw [← hnn] at hp5 ⊢
  clear hx hrd hps hnn HR0
  go_wp2_with fail
  have HO : Hid ((w1.alloc (.cells #[] 9)).ownsRow w1.heap.size 9 1 (.slice (some ⟨w1.heap.size, 0, none⟩) 0 0) 0 []) := hide (World.ownsRow_made w1 #[] 0 (Nat.le_refl _) (by simp [maxLen]) rfl)
  go_loopw [6, 7] (fun ov kv wr => ∃ (k : Nat) (ns : List ByteArray) (An : Option Addr) (cn : Nat), k ≤ n ∧ kv = .int .i64 (k : Int) ∧ ov = .slice An ns.length cn ∧ ns.length ≤ k ∧ Hid (ns.Sublist ((ps.take k).map PersonD.Name)) ∧ Hid (wr.ownsRow w1.heap.size 9 1 ov ns.length (ns.flatMap strC)) ∧ IsX w1 wr) (fun _ kv _ => n - (intOf kv).toNat)
  case atStart => exact ⟨0, [], _, _, Nat.zero_le _, rfl, rfl, Nat.le_refl _, hide (by simp), HO, (IsX.refl w1).alloc _⟩
  case round =>
    clear HO
    obtain ⟨k, ns, An, cn, hk, rfl, rfl, hnl, HSUB, HO, p, rfl⟩ := hrel
    obtain ⟨l, hll⟩ : ∃ l, l = ns.length := ⟨_, rfl⟩
    have HLN := hide hll
    rw [← hll] at hnl HO ⊢
    clear hll
    by_cases hlt : k < n
    · have hkx : k < ps.length := HN.out ▸ hlt
      have HNM := hide (show (ps.take (k + 1)).map PersonD.Name = (ps.take k).map PersonD.Name ++ [ps[k].Name] by rw [List.take_succ_eq_append_getElem hkx, List.map_append]; rfl)
      obtain ⟨b, off, qA, qC, e0, hb, k0, k1, hR⟩ := RdPerson.rd (HRD.out.x ⟨p, rfl⟩ : RdPerson 0 (xt w1 p) A1 ps) (show ps[k]? = some ps[k] from List.getElem?_eq_getElem _)
      generalize ps[k].Name = nm at k0 HNM
      clear k1 hR
      subst e0
      go_wp2_with fail
      refine (HA0.out (xt w1 p) (HX1.out.trans ⟨p, rfl⟩) (k : Int) (by omega)).mono ?_
      rintro e w5 ⟨v, rfl, v0, v1, rfl⟩
      by_cases hv : v = 0
      · subst hv
        go_wp2_with (at_builtin; obtain ⟨i0, hi0, hz0, hz1, hz2⟩ := HI.out; refine wpList_append_any _ rfl (.tmp 34) (.tmp 40) _ rfl w1.heap.size 9 i0 _ 1 16 Try.underlying23 hi0 hz0 hz1 hz2 rfl (by omega) (.slice An l cn) l (ns.flatMap strC) rfl (HO.out.alloc _) _ (some ⟨(xt w1 p).heap.size, 0, none⟩) 1 1 [.string nm] rfl (ndStr_reads (xt w1 p) _ _) (ndStr_one nm) (by simp only [maxLen]; omega) (by omega) (by have := size_xt w1 p; simp; omega) ?_; clear hi0 hz0 hz1 hz2; intro vN wN hownN hgN hatN; obtain ⟨A', c'', rfl, hcn⟩ := nd_form hownN; have HON := hide hownN; have hxN : IsX w1 wN := IsX.grown (IsX.alloc (w' := xt w1 p) ⟨p, rfl⟩ _) hgN (by intro z hz; exact (HO.out.lt z hz).1); clear hownN hgN hatN; obtain ⟨pN, rfl⟩ := hxN)
        go_wp2_with fail
        go_roundw
        case rel => exact ⟨k + 1, ns ++ [nm], A', c'', by omega, by go_num, by simp [← HLN.out], by simp [← HLN.out]; omega, hide (by rw [HNM.out]; exact HSUB.out.append (List.Sublist.refl _)), by simpa [← HLN.out, strC] using HON, ⟨pN, rfl⟩⟩
        case measure => simp [intOf]; omega
      · have q0 : (v == 0) = false := by simp only [beq_eq_false_iff_ne, ne_eq]; exact hv
        go_wp2_with fail
        go_roundw
        case rel => exact ⟨k + 1, ns, An, cn, by omega, by go_num, by rw [HLN.out], by rw [← HLN.out]; omega, hide (by rw [HNM.out]; exact HSUB.out.trans (List.sublist_append_left _ _)), by rw [← HLN.out]; exact HO, ⟨p, rfl⟩⟩
        case measure => simp [intOf]; omega
    · obtain rfl : n = k := by omega
      have hlc : l ≤ cn := own_cap HO.out
      obtain ⟨W, hW⟩ : ∃ W, W = xt w1 p := ⟨_, rfl⟩
      have hxW : IsX w1 W := ⟨p, hW⟩
      rw [← hW] at HO ⊢
      have HRW := hide (HRD.out.x hxW)
      have HSW := hide (show Rd strC 1 W An ns from Own.rd (cells := strC) (k := 1) (by omega) strC_len (by unfold Own; rw [← HLN.out]; exact HO.out) HLN.out)
      have hpd := HPS.out
      have hneed : needB ps ns = true := need_sub hpd.1 (HSUB.out.trans ((List.take_sublist _ _).map _))
      have HSAY := hide (meet_says hpd.1 (fun p hp => (hpd.2.2 p hp).2.2) hneed)
      have hsz : ∀ x ∈ ns, strWf x := fun x hx => by
        obtain ⟨p, hp, e⟩ := List.mem_map.1 (HSUB.out.subset hx)
        have := ((hpd.2.2 p (List.mem_of_mem_take hp)).1).1
        rw [e] at this
        unfold strWf maxLen at *
        omega
      have hnl12 : ns.length ≤ 12 := need_len hneed
      have HMD := hide (i_MeetingDay A1 c1 ps An cn ns 0 W (by rw [← HN.out]; omega) (fun x hx => (hpd.2.2 x hx).1) (fun x hx => (hpd.2.2 x hx).2.1) HRW.out (by omega) hsz HSW.out (by unfold intWf; omega))
      have HFD := hide (fun (V : World) (hV : IsX W V) => i_FullestDay A1 c1 ps An cn ns 0 20 V (by rw [← HN.out]; omega) (fun x hx => (hpd.2.2 x hx).1) (fun x hx => (hpd.2.2 x hx).2.1) (HRW.out.x hV) (by omega) hsz (HSW.out.x hV) (by unfold intWf; omega) (by unfold intWf; omega))
      have HWD := hide (fun (V : World) (hV : IsX W V) => i_FewestDays A1 c1 ps An cn ns 0 20 5000 V (by rw [← HN.out]; omega) (fun x hx => (hpd.2.2 x hx).1) (fun x hx => (hpd.2.2 x hx).2.1) (HRW.out.x hV) (by omega) hsz (HSW.out.x hV) (by unfold intWf; omega) (by unfold intWf; omega) (by unfold intWf; omega))
      have HCN := hide (fun (V : World) (hV : IsX W V) (d : Int) => c_r8Count A1 c1 ps An cn ns d V hpd.1 (by omega) (HRW.out.x hV) (HSW.out.x hV))
      have HC1 := hide (fun (V : World) (hV : IsX W V) (D : Option Addr) (cd : Nat) (nm : ByteArray) (d : Int) (hR : Rd strC 1 W D [nm]) => c_r8Count A1 c1 ps D cd [nm] d V hpd.1 (by simp) (HRW.out.x hV) (hR.x hV))
      have HXW := hide (HX1.out.trans hxW)
      rw [← HN.out, ← HLN.out] at HMD HFD HWD HCN
      simp only [← HN.out] at HC1
      generalize meetC ps ns 0 = a at HSAY HMD
      generalize meetZ ps ns 0 = day at HSAY HMD
      generalize fullC ps ns 0 20 = b at HSAY HFD
      generalize fullD ps ns 0 20 = full at HSAY HFD
      generalize fullM ps ns 0 20 = most at HSAY HFD
      generalize fewC ps ns 0 20 5000 = fc at HSAY HWD
      generalize fewZ ps ns 0 20 5000 = zs at HSAY HWD
      clear hpd hneed hsz hnl12 HO HSUB hW hxW HRW HA0 HI HX1 HRD HPS
      go_wp2_with fail
      refine HMD.out.mono ?_
      rintro e w2 ⟨rfl, hx2⟩
      have HX2 := hide hx2
      clear hx2 HMD
      go_wp2_with fail
      refine (HFD.out w2 HX2.out).mono ?_
      rintro e w3 ⟨rfl, hx3⟩
      have HX3 := hide (HX2.out.trans hx3)
      clear hx3 HFD HX2
      go_wp2_with fail
      refine (HWD.out w3 HX3.out).mono ?_
      rintro e w4 ⟨Ad, cd, rfl, hod, hx4⟩
      have HX4 := hide (HX3.out.trans hx4)
      have HRZ := hide (show Rd intC 1 w4 Ad zs from Own.rd (cells := intC) (k := 1) (by omega) intC_len hod rfl)
      have hm20 : zs.length ≤ maxLen := by
        rcases hod.2 with ⟨_, h⟩ | ⟨_, cap, _, _, _, _, h1, h2, _, _⟩
        · omega
        · omega
      obtain ⟨m, hm⟩ : ∃ m, m = zs.length := ⟨_, rfl⟩
      have HM := hide hm
      rw [← hm] at hm20 ⊢
      unfold maxLen at hm20
      clear hod hx4 HWD HX3 hm
      obtain ⟨ha3, hb3, hc5, hall, hmost, hboth, hcov, hfew⟩ := HSAY.out
      rw [← HN.out, ← HLN.out] at hall
      rw [← HN.out] at hmost
      rw [← HLN.out] at hboth
      rw [← HM.out, ← HLN.out] at hfew
      have HALL := hide hall
      have HMOST := hide hmost
      have HBOTH := hide hboth
      have HCOV := hide hcov
      have HFEW := hide hfew
      clear HSAY hall hmost hboth hcov hfew
      go_upto_region 13 with fail
      go_cut [86] from 61 to 86 (fun s wc => s = .bool false ∧ wc = w4)
      case first =>
        rcases ha3 with rfl | rfl <;> rcases hb3 with rfl | rfl <;> rcases hc5 with rfl | rfl | rfl
        all_goals
          go_wp2_with fail
          go_meet
          exact ⟨rfl, rfl⟩
      case rest =>
        obtain ⟨rfl, rfl⟩ := hcut
        obtain ⟨W4, rfl⟩ : ∃ W4, W4 = wc := ⟨_, rfl⟩
        go_upto_region 15 with fail
        go_cut [113] from 87 to 113 (fun s wx => s = .bool false ∧ IsX W4 wx)
        case first =>
          rcases ha3 with rfl | rfl
          · have h1 := HALL.out rfl
            go_wp2_with fail
            refine (HCN.out W4 HX4.out day).mono ?_
            rw [h1]
            rintro e w5 ⟨rfl, hx5⟩
            have HX5 := hide hx5
            have HX5' := hide (HX4.out.trans hx5)
            clear hx5 h1
            rcases hb3 with rfl | rfl
            · obtain ⟨h2, h3⟩ := HMOST.out rfl
              have g1 : decide (most < 1) = false := decide_eq_false (by omega)
              go_wp2_with fail
              refine (HCN.out w5 HX5'.out full).mono ?_
              rw [h2]
              rintro e w6 ⟨rfl, hx6⟩
              have HX6 := hide (HX5.out.trans hx6)
              clear hx6 h2
              go_wp2_with fail
              go_meet
              exact ⟨rfl, HX6.out⟩
            · go_wp2_with fail
              go_meet
              exact ⟨rfl, HX5.out⟩
          · rcases hb3 with rfl | rfl
            · obtain ⟨h2, h3⟩ := HMOST.out rfl
              have g1 : decide (most < 1) = false := decide_eq_false (by omega)
              go_wp2_with fail
              refine (HCN.out W4 HX4.out full).mono ?_
              rw [h2]
              rintro e w6 ⟨rfl, hx6⟩
              have HX6 := hide hx6
              clear hx6 h2
              go_wp2_with fail
              go_meet
              exact ⟨rfl, HX6.out⟩
            · go_wp2_with fail
              go_meet
              exact ⟨rfl, IsX.refl _⟩
        case rest =>
          obtain ⟨rfl, hxc⟩ := hcut
          obtain ⟨W5, rfl⟩ : ∃ W5, W5 = wc := ⟨_, rfl⟩
          have HX5 := hide (HX4.out.trans hxc)
          have HRZ5 := hide (HRZ.out.x hxc)
          clear hxc HX4 HRZ HALL HMOST HCN
          go_upto_region 17 with fail
          go_cut [129] from 114 to 129 (fun s wx => s = .bool false ∧ wx = W5)
          case first =>
            by_cases hl0 : l = 0
            · subst hl0
              go_wp2_with fail
              go_meet
              exact ⟨rfl, rfl⟩
            · have hlp : 0 < l := by omega
              have g0 : decide ((l : Int) > 0) = true := decide_eq_true (by omega)
              have hbo := HBOTH.out hlp
              rcases ha3 with rfl | rfl <;> rcases hb3 with rfl | rfl
              · obtain ⟨_, rfl⟩ := hbo.1 rfl
                clear hbo
                go_wp2_with fail
                go_meet
                exact ⟨rfl, rfl⟩
              · exact absurd (hbo.1 rfl).1 (by omega)
              · have q : (most == (l : Int)) = false := by
                  simp only [beq_eq_false_iff_ne, ne_eq]
                  exact fun e => absurd (hbo.2 ⟨rfl, e⟩) (by omega)
                clear hbo
                go_wp2_with fail
                go_meet
                exact ⟨rfl, rfl⟩
              · clear hbo
                go_wp2_with fail
                go_meet
                exact ⟨rfl, rfl⟩
          case rest =>
            obtain ⟨rfl, rfl⟩ := hcut
            obtain ⟨W6, rfl⟩ : ∃ W6, W6 = wc := ⟨_, rfl⟩
            rcases hc5 with rfl | rfl | rfl
            rotate_left
            · go_wp2_with fail
              go_ret
              exact ⟨rfl, HXW.out.trans HX5.out⟩
            · go_wp2_with fail
              go_ret
              exact ⟨rfl, HXW.out.trans HX5.out⟩
            obtain ⟨hf1, hf2⟩ := HFEW.out rfl
            have HCOV0 := hide (HCOV.out rfl)
            have HF2 := hide hf2
            clear HFEW HCOV hf2 HBOTH
            go_wp2_with fail
            go_loopw [15] (fun iv wr => ∃ i : Nat, i ≤ l ∧ iv = .int .i64 (i : Int) ∧ IsX W6 wr) (fun iv _ => l - (intOf iv).toNat)
            case atStart => exact ⟨0, Nat.zero_le _, rfl, IsX.refl _⟩
            case round =>
              obtain ⟨i, hi, rfl, p, rfl⟩ := hrel
              by_cases hlt : i < l
              · have hix : i < ns.length := HLN.out ▸ hlt
                have HCI := hide (HCOV0.out i hix)
                obtain ⟨b0, off, e0, hb0, k0⟩ := str_rd HSW.out (show ns[i]? = some ns[i] from List.getElem?_eq_getElem _)
                subst e0
                have HR1 := hide (HSW.out.one (show ns[i]? = some ns[i] from List.getElem?_eq_getElem _))
                generalize ns[i] = nm at HCI HR1
                clear k0
                go_wp2_with fail
                go_loopw [16, 17] (fun fv kv wr => ∃ (k : Nat) (f : Bool), k ≤ m ∧ kv = .int .i64 (k : Int) ∧ fv = .bool f ∧ Hid (f = anyTo ps nm zs k) ∧ IsX W6 wr) (fun _ kv _ => m - (intOf kv).toNat)
                case atStart => exact ⟨0, false, Nat.zero_le _, rfl, rfl, hide (by simp [anyTo]), ⟨p, rfl⟩⟩
                case round =>
                  obtain ⟨k, f, hk, rfl, rfl, HF, p, rfl⟩ := hrel
                  by_cases hkm : k < m
                  · have hkx : k < zs.length := HM.out ▸ hkm
                    have HANY := hide (any_succ (ps := ps) (nm := nm) hkx)
                    obtain ⟨b2, off2, e2, hb2, d0⟩ := int_rd HRZ5.out (show zs[k]? = some zs[k] from List.getElem?_eq_getElem _)
                    subst e2
                    generalize zs[k] = d at d0 HANY
                    rw [← HF.out] at HANY
                    cases f
                    · have HCU := hide (fun (V : World) (hV : IsX W6 V) (cd' : Nat) => HC1.out V (HX5.out.trans hV) _ cd' nm d HR1.out)
                      rw [← HN.out] at HANY
                      generalize onTo ps [nm] d n = u at HCU HANY
                      have hwr : IntKind.i64.wrap ((i : Int) + 1) = (i : Int) + 1 := IntWalk.i64_in _ (by omega)
                      have hw2 : 0 ≤ (i : Int) + 1 := by omega
                      have hw3 : ((i : Int) + 1).toNat = i + 1 := by omega
                      have hw4 : i + 1 - i = 1 := by omega
                      have hw5 : (i : Int) ≤ (i : Int) + 1 := by omega
                      have hw6 : (i : Int) + 1 ≤ (cn : Int) := by omega
                      have hw7 : i + 1 ≤ cn := by omega
                      cases hu : ((u : Int) == 1)
                      · have HU := hide (show decide (u = 1) = false from decide_eq_false (fun e => by subst e; simp at hu))
                        go_wp2_with fail
                        refine wp_region_x (by kernel_rfl) (by kernel_rfl) ?_
                        repeat (go_big_quiet_step ((go_at_call 29; exact call_x (HCU.out _ (IsX.xt ⟨p, rfl⟩ _) _))))
                        refine wpQuiet_nil ?_
                        rintro _ ⟨q, rfl⟩
                        clear hwr hw2 hw3 hw4 hw5 hw6 hw7
                        go_wp2_with fail
                        go_roundw
                        case rel => exact ⟨k + 1, false, by omega, by go_num, rfl, hide (by rw [HANY.out, HU.out]; rfl), IsX.xt ⟨p, rfl⟩ q⟩
                        case measure => simp [intOf]; omega
                      · have HU := hide (show decide (u = 1) = true from decide_eq_true (by simp only [beq_iff_eq] at hu; omega))
                        go_wp2_with fail
                        refine wp_region_x (by kernel_rfl) (by kernel_rfl) ?_
                        repeat (go_big_quiet_step ((go_at_call 29; exact call_x (HCU.out _ (IsX.xt ⟨p, rfl⟩ _) _))))
                        refine wpQuiet_nil ?_
                        rintro _ ⟨q, rfl⟩
                        clear hwr hw2 hw3 hw4 hw5 hw6 hw7
                        go_wp2_with fail
                        go_roundw
                        case rel => exact ⟨k + 1, true, by omega, by go_num, rfl, hide (by rw [HANY.out, HU.out]; rfl), IsX.xt ⟨p, rfl⟩ q⟩
                        case measure => simp [intOf]; omega
                    · clear d0
                      go_wp2_with fail
                      refine wp_region_x (by kernel_rfl) (by kernel_rfl) ?_
                      repeat (go_big_quiet_step (fail))
                      refine wpQuiet_nil ?_
                      rintro _ ⟨q, rfl⟩
                      go_wp2_with fail
                      go_roundw
                      case rel => exact ⟨k + 1, true, by omega, by go_num, rfl, hide (by rw [HANY.out]; rfl), IsX.xt ⟨p, rfl⟩ q⟩
                      case measure => simp [intOf]; omega
                  · obtain rfl : k = m := by omega
                    obtain rfl : f = true := by
                      rw [HF.out, anyTo, HM.out, List.take_length]; exact HCI.out
                    go_wp2_with fail
                    go_roundw
                    case rel => exact ⟨i + 1, by omega, by go_num, ⟨p, rfl⟩⟩
                    case measure => simp [intOf]; omega
              · obtain rfl : i = l := by omega
                have g1 : decide ((m : Int) ≤ (i : Int)) = true := decide_eq_true (by omega)
                rcases ha3 with rfl | rfl
                · have hm1 := HF2.out rfl
                  have g2 : decide ((m : Int) ≤ 1) = true := decide_eq_true (by omega)
                  go_wp2_with fail
                  go_ret
                  exact ⟨by first | rfl | (simp only [*]; done), HXW.out.trans (HX5.out.trans ⟨p, rfl⟩)⟩
                · go_wp2_with fail
                  go_ret
                  exact ⟨by first | rfl | (simp only [*]; done), HXW.out.trans (HX5.out.trans ⟨p, rfl⟩)⟩
end Go.Proofs.Ytfkhhioadklomaa
