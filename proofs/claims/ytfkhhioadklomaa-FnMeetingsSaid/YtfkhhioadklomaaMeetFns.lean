/- Days on which people are free, and how many of some are free on a day. Conditions: people are valid. -/
import Derived.Test.YtfkhhioadklomaaMeetLaw
import Derived.Test.YtfkhhioadklomaaPutFns
import Derived.Test.YtfkhhioadklomaaSortFns
import Derived.Test.YtfkhhioadklomaaSortLaidI
import Derived.Lib.RowBridge
namespace Go.Proofs.Ytfkhhioadklomaa
set_option linter.unusedVariables false
open Go.RowKit Go.Sort

theorem row_takeI {w : World} {base e n m cap : Nat} {A : Option Addr} {L : List Value} (h : w.ownsRow base e 1 (.slice A n cap) n L) (hm : m ≤ n) (hA : A ≠ none) : w.ownsRow base e 1 (.slice A m cap) m (L.take m) := by
  refine ⟨by rw [List.length_take, h.1]; omega, ?_⟩
  rcases h.2 with ⟨h2, _⟩ | ⟨g, c2, cur, hv, hb, hh, h1, h2, h3, h4⟩
  · injection h2 with e _ _; exact absurd e hA
  · injection hv with e1 e2 e3
    subst e1 e3
    refine .inr ⟨g, cap, cur, rfl, hb, hh, by omega, h2, h3, ?_⟩
    rw [← h4, List.take_take, Nat.mul_one, Nat.mul_one, Nat.min_eq_left hm]
theorem c_CompactI (w0 : World) (A : Option Addr) (n c : Nat) (zs : List Int) (base : Nat) (w : World) (hnn : n = zs.length) (hO : w.ownsRow base 2 1 (.slice A n c) n (zs.flatMap intC)) (hx : IsX w0 w) (hb : w0.heap.size ≤ base) (hn : n ≤ 1048576) :
    Calls Try.prog 69 #[.slice A n c] w fun e w' => e = .returned (.slice A (Lib.compact zs).length c) ∧ w'.ownsRow base 2 1 (.slice A (Lib.compact zs).length c) (Lib.compact zs).length ((Lib.compact zs).flatMap intC) ∧ IsX w0 w' := by
  have hcl := Lib.compact_length_le zs
  rcases hO.2 with ⟨h1, h0⟩ | ⟨g, cap, cur, hv, hg, hh, h1, h2, h3, h4⟩
  · subst h0
    have hk := List.eq_nil_of_length_eq_zero hnn.symm
    subst hk
    have hce : Lib.compact ([] : List Int) = [] := List.eq_nil_of_length_eq_zero (by simpa using hcl)
    refine (Try.slices_Compact_int_empty A c w).mono ?_
    rintro e w1 ⟨rfl, rfl⟩
    rw [hce]
    exact ⟨rfl, hO, hx⟩
  · injection hv with hA _ hc
    subst hA
    subst hc
    rw [Nat.mul_one, hnn, flat_int] at h4
    have key := Try.slices_Compact_int g 0 c zs w (holds_of_blockI hh h4) (by omega) (by omega)
    rw [← hnn] at key
    refine key.mono ?_
    rintro e w1 ⟨rfl, q, rfl⟩
    obtain ⟨ts, hts⟩ : ∃ ts, ts = Lib.compact zs ++ List.replicate (n - (Lib.compact zs).length) 0 := ⟨_, rfl⟩
    have htl : ts.length = zs.length := by rw [hts]; simp; omega
    have hrow := ownsRow_sortedI (w := w) (n := q) (os := #[]) (ss := zs) (ts := ts) htl hg hh (by omega) h2 h3
    have hgr := grownBy_sortedI (w := w) (g := g) (n := q) (os := #[]) ts.toArray
    rw [grow_empty] at hrow hgr
    rw [← hnn] at hrow
    rw [← hts]
    refine ⟨rfl, ?_, hx.grown hgr (by intro z hz; injection hz with hz; omega)⟩
    have := row_takeI hrow (m := (Lib.compact zs).length) (by omega) (by simp)
    have htk : (ts.map (Value.int .i64)).take (Lib.compact zs).length = (Lib.compact zs).map (Value.int .i64) := by rw [hts, List.map_append, List.take_left' (by simp)]
    rw [htk] at this
    rw [flat_int]
    exact this

set_option maxRecDepth 100000 in
set_option maxHeartbeats 3200000 in
theorem c_l21All (A0 : Option Addr) (c0 : Nat) (ps : List PersonD) (fr un : Int) (w : World) (hp : peopleB ps = true) (hA : RdPerson 0 w A0 ps) :
    Calls Try.prog 35 #[.slice A0 ps.length c0, .int .i64 fr, .int .i64 un] w fun e w' => ∃ A c, e = .returned (.slice A (allF ps fr un).length c) ∧ Own intC 1 2 w' w.heap.size (.slice A (allF ps fr un).length c) (allF ps fr un) ∧ IsX w w' := by
  obtain ⟨hl, hd⟩ := people_bd hp
  have HD := hide hd
  obtain ⟨n, hnn⟩ : ∃ n, n = ps.length := ⟨_, rfl⟩
  have HN := hide hnn
  have HA := hide hA
  rw [← hnn] at hl ⊢
  clear hnn hd hA hp
  go_enter Try.func35, Try.ntmps35
  go_wp2_with fail
  have HO : Hid ((w.alloc (.cells #[] 2)).ownsRow w.heap.size 2 1 (.slice (some ⟨w.heap.size, 0, none⟩) 0 0) 0 []) := hide (World.ownsRow_made w #[] 0 (Nat.le_refl _) (by simp [maxLen]) rfl)
  go_loopw [7, 8] (fun ov iv wr => ∃ (i : Nat) (F : List Int), i ≤ n ∧ iv = .int .i64 i ∧ (∃ A c, ov = .slice A F.length c) ∧ Hid (F = (daysTo ps fr un i).foldl insK []) ∧ F.length ≤ 32 * i ∧ Hid (wr.ownsRow w.heap.size 2 1 ov F.length (F.flatMap intC)) ∧ IsX w wr) (fun _ iv _ => n - (intOf iv).toNat)
  case atStart => exact ⟨0, [], Nat.zero_le _, rfl, ⟨_, _, rfl⟩, hide (by simp [daysTo]), Nat.zero_le _, HO, (IsX.refl w).alloc _⟩
  case round =>
    clear HO
    obtain ⟨i, F, hi, rfl, ⟨Ao, co, rfl⟩, HF, hFl, HO, p, rfl⟩ := hrel
    by_cases hlt : i < n
    · have hix : i < ps.length := HN.out ▸ hlt
      have HDS := hide (days_succ (fr := fr) (un := un) hix)
      obtain ⟨b, off, qA, qC, e0, hb, k0, k1, hR⟩ := RdPerson.rd HA.out (show ps[i]? = some ps[i] from List.getElem?_eq_getElem _)
      obtain ⟨z1, z2⟩ := HD.out _ (List.getElem_mem hix)
      obtain ⟨ds, hds⟩ : ∃ ds, ds = ps[i].Days := ⟨_, rfl⟩
      rw [← hds] at k1 hR z1 HDS
      obtain ⟨m, hm⟩ : ∃ m, m = ds.length := ⟨_, rfl⟩
      have HM := hide hm
      rw [← hm] at k1 z1
      have HR := hide hR
      subst e0
      have HF0 := hide (show F = (daysTo ps fr un i ++ (ds.take 0).filter (fun d => inB d fr un)).foldl insK [] by rw [List.take_zero, List.filter_nil, List.append_nil]; exact HF.out)
      clear hds hm hR z2 HF k0
      go_wp2_with fail
      go_loopw [7, 9] (fun ov kv wr => ∃ (k : Nat) (F : List Int), k ≤ m ∧ kv = .int .i64 k ∧ (∃ A c, ov = .slice A F.length c) ∧ Hid (F = (daysTo ps fr un i ++ (ds.take k).filter (fun d => inB d fr un)).foldl insK []) ∧ F.length ≤ 32 * i + k ∧ Hid (wr.ownsRow w.heap.size 2 1 ov F.length (F.flatMap intC)) ∧ IsX w wr) (fun _ kv _ => m - (intOf kv).toNat)
      case atStart => exact ⟨0, F, Nat.zero_le _, rfl, ⟨_, _, rfl⟩, HF0, by omega, HO, ⟨p, rfl⟩⟩
      case round =>
        clear HF0 HO hFl
        obtain ⟨k, F, hk, rfl, ⟨Ao, co, rfl⟩, HF, hFl, HO, p, rfl⟩ := hrel
        by_cases hkm : k < m
        · have hkx : k < ds.length := HM.out ▸ hkm
          obtain ⟨b2, off2, e2, hb2, cd⟩ := int_rd HR.out (show ds[k]? = some ds[k] from List.getElem?_eq_getElem _)
          obtain ⟨d, hdd⟩ : ∃ d, d = ds[k] := ⟨_, rfl⟩
          have HDD := hide hdd
          rw [← hdd] at cd
          have HFR : Hid (Rd intC 1 (xt w p) Ao F) := hide (Rd.of_own (by omega) intC_len HO.out)
          subst e2
          clear hdd
          cases hin : inB d fr un
          · have HY := hide (filt_no hkx (show inB ds[k] fr un = false by rw [← HDD.out]; exact hin) (daysTo ps fr un i))
            go_wp2_with fail
            refine (cb (c_in d fr un _) hin).mono ?_
            rintro e wu ⟨rfl, rfl⟩
            go_wp2_with fail
            go_roundw
            case rel => exact ⟨k + 1, F, by omega, by go_num, ⟨_, _, rfl⟩, hide (by rw [HY.out]; exact HF.out), by omega, HO, ⟨p, rfl⟩⟩
            case measure => simp [intOf]; omega
          · have HY := hide (filt_yes hkx (show inB ds[k] fr un = true by rw [← HDD.out]; exact hin) (daysTo ps fr un i))
            go_wp2_with fail
            refine (cb (c_in d fr un _) hin).mono ?_
            rintro e wu ⟨rfl, rfl⟩
            go_wp2_with fail
            refine (c_l00Put Ao F.length co F d (xt w p) rfl (by omega) HFR.out).mono ?_
            rintro e w6 ⟨A6, c6, rfl, hO6, hx6⟩
            have HO6 : Hid (w6.ownsRow w.heap.size 2 1 (.slice A6 (insK F d).length c6) (insK F d).length ((insK F d).flatMap intC)) := hide (row_le hO6 (size_xt w p))
            have hl6 := insK_len F d
            obtain ⟨G, hG⟩ : ∃ G, G = insK F d := ⟨_, rfl⟩
            have HG := hide hG
            rw [← hG] at HO6 hl6 ⊢
            obtain ⟨p6, rfl⟩ := IsX.trans ⟨p, rfl⟩ hx6
            clear hO6 hx6 hG
            go_wp2_with fail
            go_roundw
            case rel => exact ⟨k + 1, G, by omega, by go_num, ⟨_, _, rfl⟩, hide (by rw [HY.out, fold_app, ← HF.out, ← HDD.out]; exact HG.out), by omega, HO6, ⟨p6, rfl⟩⟩
            case measure => simp [intOf]; omega
        · obtain rfl : k = m := by omega
          have HF' := hide (show F = (daysTo ps fr un (i + 1)).foldl insK [] by rw [HDS.out, ← HM.out]; exact HF.out)
          go_wp2_with fail
          go_roundw
          case rel => exact ⟨i + 1, F, by omega, by go_num, ⟨_, _, rfl⟩, HF', by omega, HO, ⟨p, rfl⟩⟩
          case measure => simp [intOf]; omega
    · obtain rfl : i = n := by omega
      have HZ := hide (show allF ps fr un = F by rw [allF, ← HN.out]; exact HF.out.symm)
      go_wp2_with fail
      go_ret
      refine ⟨Ao, co, by rw [HZ.out]; rfl, ?_, ⟨p, rfl⟩⟩
      rw [HZ.out]
      exact HO.out

set_option maxRecDepth 100000 in
set_option maxHeartbeats 3200000 in
theorem c_freeDays (A0 : Option Addr) (c0 : Nat) (ps : List PersonD) (fr un : Int) (w : World) (hp : peopleB ps = true) (hA : RdPerson 0 w A0 ps) :
    Calls Try.prog 42 #[.slice A0 ps.length c0, .int .i64 fr, .int .i64 un] w fun e w' => ∃ A c, e = .returned (.slice A (allF ps fr un).length c) ∧ Own intC 1 2 w' w.heap.size (.slice A (allF ps fr un).length c) (allF ps fr un) ∧ IsX w w' := by
  obtain ⟨hl, hd⟩ := people_bd hp
  have HD := hide hd
  have HI := hide (info_parts Int64_info)
  obtain ⟨n, hnn⟩ : ∃ n, n = ps.length := ⟨_, rfl⟩
  have HN := hide hnn
  have HA := hide hA
  have HLB := hide (days_len hp fr un ps.length (Nat.le_refl _))
  rw [← hnn] at hl ⊢
  clear hnn hd hA hp
  go_enter Try.func42, Try.ntmps42
  go_wp2_with fail
  have HO : Hid (w.ownsRow w.heap.size 2 1 (.slice none 0 0) 0 []) := hide (World.ownsRow_nil _ _ _ _)
  go_loopw [7, 14] (fun ov iv wr => ∃ (i : Nat) (F : List Int), i ≤ n ∧ iv = .int .i64 i ∧ (∃ A c, ov = .slice A F.length c) ∧ Hid (F = daysTo ps fr un i) ∧ F.length ≤ 32 * i ∧ Hid (wr.ownsRow w.heap.size 2 1 ov F.length (F.flatMap intC)) ∧ IsX w wr) (fun _ iv _ => n - (intOf iv).toNat)
  case atStart => exact ⟨0, [], Nat.zero_le _, rfl, ⟨_, _, rfl⟩, hide (by simp [daysTo]), Nat.zero_le _, HO, IsX.refl w⟩
  case round =>
    clear HO
    obtain ⟨i, F, hi, rfl, ⟨Ao, co, rfl⟩, HF, hFl, HO, p, rfl⟩ := hrel
    by_cases hlt : i < n
    · have hix : i < ps.length := HN.out ▸ hlt
      have HDS := hide (days_succ (fr := fr) (un := un) hix)
      obtain ⟨b, off, qA, qC, e0, hb, k0, k1, hR⟩ := RdPerson.rd HA.out (show ps[i]? = some ps[i] from List.getElem?_eq_getElem _)
      obtain ⟨z1, z2⟩ := HD.out _ (List.getElem_mem hix)
      obtain ⟨ds, hds⟩ : ∃ ds, ds = ps[i].Days := ⟨_, rfl⟩
      obtain ⟨nm, hnm⟩ : ∃ nm, nm = ps[i].Name := ⟨_, rfl⟩
      rw [← hds] at k1 hR z1 HDS
      rw [← hnm] at k0
      obtain ⟨m, hm⟩ : ∃ m, m = ds.length := ⟨_, rfl⟩
      have HM := hide hm
      rw [← hm] at k1 z1
      have HR := hide hR
      subst e0
      have HF0 := hide (show F = daysTo ps fr un i ++ (ds.take 0).filter (fun d => inB d fr un) by rw [List.take_zero, List.filter_nil, List.append_nil]; exact HF.out)
      clear hds hm hR z2 HF hnm
      go_wp2_with fail
      go_loopw [7, 21] (fun ov kv wr => ∃ (k : Nat) (F : List Int), k ≤ m ∧ kv = .int .i64 k ∧ (∃ A c, ov = .slice A F.length c) ∧ Hid (F = daysTo ps fr un i ++ (ds.take k).filter (fun d => inB d fr un)) ∧ F.length ≤ 32 * i + k ∧ Hid (wr.ownsRow w.heap.size 2 1 ov F.length (F.flatMap intC)) ∧ IsX w wr) (fun _ kv _ => m - (intOf kv).toNat)
      case atStart => exact ⟨0, F, Nat.zero_le _, rfl, ⟨_, _, rfl⟩, HF0, by omega, hide (HO.out.alloc _), IsX.alloc ⟨p, rfl⟩ _⟩
      case round =>
        clear HF0 HO hFl
        obtain ⟨k, F, hk, rfl, ⟨Ao, co, rfl⟩, HF, hFl, HO, p, rfl⟩ := hrel
        by_cases hkm : k < m
        · have hkx : k < ds.length := HM.out ▸ hkm
          obtain ⟨b2, off2, e2, hb2, cd⟩ := int_rd HR.out (show ds[k]? = some ds[k] from List.getElem?_eq_getElem _)
          obtain ⟨d, hdd⟩ : ∃ d, d = ds[k] := ⟨_, rfl⟩
          have HDD := hide hdd
          rw [← hdd] at cd
          subst e2
          clear hdd
          cases hin : inB d fr un
          · have HY := hide (filt_no hkx (show inB ds[k] fr un = false by rw [← HDD.out]; exact hin) (daysTo ps fr un i))
            go_wp2_with fail
            refine (cb (c_within d fr un _) hin).mono ?_
            rintro e wu ⟨rfl, rfl⟩
            go_wp2_with fail
            go_roundw
            case rel => exact ⟨k + 1, F, by omega, by go_num, ⟨_, _, rfl⟩, hide (by rw [HY.out]; exact HF.out), by omega, HO, ⟨p, rfl⟩⟩
            case measure => simp [intOf]; omega
          · have HY := hide (filt_yes hkx (show inB ds[k] fr un = true by rw [← HDD.out]; exact hin) (daysTo ps fr un i))
            go_wp2_with fail
            refine (cb (c_within d fr un _) hin).mono ?_
            rintro e wu ⟨rfl, rfl⟩
            go_wp2_with (at_builtin; obtain ⟨i0, hi0, hz0, hz1, hz2⟩ := HI.out; refine wpList_append_any _ rfl (.tmp 29) (.tmp 31) _ rfl w.heap.size 2 i0 _ 1 8 Try.underlying26 hi0 hz0 hz1 hz2 rfl (by omega) _ F.length (F.flatMap intC) rfl (HO.out.alloc _) _ (some ⟨(xt w p).heap.size, 0, none⟩) 1 1 [.int .i64 d] rfl (one_reads' (xt w p) 2 d) (one_one' d) (by simp only [maxLen]; omega) (by omega) (by have := size_xt w p; simp; omega) ?_; clear hi0 hz0 hz1 hz2; intro v1 w1 hown1 hg1 hat1; have HO1 := hide hown1; have hx1 : IsX w w1 := IsX.grown (IsX.alloc (w' := xt w p) ⟨p, rfl⟩ _) hg1 (by intro z hz; exact (HO.out.lt z hz).1); clear hown1 hg1 hat1; obtain ⟨p1, rfl⟩ := hx1)
            go_roundw
            case rel => exact ⟨k + 1, F ++ [d], by omega, by go_num, (by obtain ⟨A', c', h⟩ := row_slice HO1.out; exact ⟨A', c', by rw [h]; simp⟩), hide (by rw [HY.out, ← HF.out, ← HDD.out]), by simp; omega, hide (by rw [List.length_append, List.flatMap_append]; exact HO1.out), ⟨p1, rfl⟩⟩
            case measure => simp [intOf]; omega
        · obtain rfl : k = m := by omega
          have HF' := hide (show F = daysTo ps fr un (i + 1) by rw [HDS.out, ← HM.out]; exact HF.out)
          go_wp2_with fail
          go_roundw
          case rel => exact ⟨i + 1, F, by omega, by go_num, ⟨_, _, rfl⟩, HF', by omega, HO, ⟨p, rfl⟩⟩
          case measure => simp [intOf]; omega
    · obtain rfl : i = n := by omega
      go_wp2_with fail
      refine (c_Sort w Ao co F w.heap.size (xt w p) HO.out ⟨p, rfl⟩ (Nat.le_refl _) (by omega)).mono ?_
      rintro e w5 ⟨rfl, hO5, hx5⟩
      have hsl := sortI_len F
      have HO5 : Hid (w5.ownsRow w.heap.size 2 1 (.slice Ao F.length co) F.length ((sortI F).flatMap intC)) := hide (by
        have h := hO5
        unfold Own at h
        rw [hsl] at h
        exact h)
      have HX5 := hide hx5
      have HSL := hide hsl
      clear hO5 hx5 hsl
      go_wp2_with fail
      refine (c_CompactI w Ao F.length co (sortI F) w.heap.size w5 HSL.out.symm HO5.out HX5.out (Nat.le_refl _) (by omega)).mono ?_
      rintro e w6 ⟨rfl, hO6, hx6⟩
      have HZ := hide (show Lib.compact (sortI F) = allF ps fr un by rw [allF, days_same, ← HN.out, ← HF.out])
      rw [HZ.out] at hO6 ⊢
      have HO6 := hide hO6
      have HX6 := hide hx6
      obtain ⟨m, hm⟩ : ∃ m, m = (allF ps fr un).length := ⟨_, rfl⟩
      have HM := hide hm
      rw [← hm]
      clear hO6 hx6 hm
      go_wp2_with fail
      go_ret
      exact ⟨Ao, co, by rw [← HM.out]; rfl, HO6.out, HX6.out⟩

set_option maxHeartbeats 800000 in
theorem c_IndexNum (A : Option Addr) (c : Nat) (xs : List Int) (v : Int) (w : World) (hn : xs.length ≤ 1099511627776) (hA : Rd intC 1 w A xs) :
    Calls Try.prog 87 #[.slice A xs.length c, .int .i64 v] w fun e w' => e = .returned (.int .i64 (idxI (fun x => x == v) xs)) ∧ IsX w w' := by
  obtain ⟨n, hnn⟩ : ∃ n, n = xs.length := ⟨_, rfl⟩
  have HN := hide hnn
  rw [← hnn] at hn ⊢
  clear hnn
  go_enter Try.func87, Try.ntmps87
  go_wp2
  go_loopw [8] (fun i wr => ∃ k : Nat, k ≤ n ∧ i = .int .i64 k ∧ (∀ i (h : i < xs.length), i < k → (fun x : Int => x == v) xs[i] = false) ∧ IsX w wr) (fun i _ => n - (intOf i).toNat)
  case atStart => exact ⟨0, Nat.zero_le _, rfl, fun i h hi => absurd hi (by omega), IsX.refl _⟩
  case round =>
    obtain ⟨k, hk, rfl, hall, p, rfl⟩ := hrel
    have HA := hide hall
    clear hall
    by_cases hlt : k < n
    · have hltx : k < xs.length := HN.out ▸ hlt
      obtain ⟨b, off, rfl, hb, c0⟩ := int_rd hA (show xs[k]? = some xs[k] from List.getElem?_eq_getElem _)
      clear hA
      cases hp : (xs[k] == v)
      · have HP := hide hp
        have hp2 : (v == xs[k]) = false := by simp only [beq_eq_false_iff_ne] at hp ⊢; exact fun e => hp e.symm
        go_wp2
        go_roundw
        case rel => exact ⟨k + 1, by omega, by go_num, step_all (p := fun x : Int => x == v) hltx HA.out HP.out, ⟨p, rfl⟩⟩
        case measure => simp [intOf]; omega
      · have HR := hide (idxI_at (p := fun x : Int => x == v) hltx HA.out hp)
        have hp2 : (v == xs[k]) = true := by simp only [beq_iff_eq] at hp ⊢; exact hp.symm
        go_wp2
        go_ret
        exact ⟨by rw [HR.out]; rfl, ⟨p, rfl⟩⟩
    · have HR := hide (idxI_none (p := fun x : Int => x == v) (xs := xs) (fun i h => HA.out i h (by have := HN.out; omega)))
      go_wp2
      go_ret
      exact ⟨by rw [HR.out]; rfl, ⟨p, rfl⟩⟩
theorem any_has (xs : List Int) (v : Int) : xs.any (fun x => x == v) = hasB xs v := by
  rw [Bool.eq_iff_iff]
  simp [hasB]
theorem c_ContainsNum (A : Option Addr) (c : Nat) (xs : List Int) (v : Int) (w : World) (hn : xs.length ≤ 1099511627776) (hA : Rd intC 1 w A xs) :
    Calls Try.prog 71 #[.slice A xs.length c, .int .i64 v] w fun e w' => e = .returned (.bool (hasB xs v)) ∧ IsX w w' := by
  have HI := hide (idxI_ge (fun x : Int => x == v) xs)
  go_enter Try.func71, Try.ntmps71
  go_wp2_with fail
  refine (c_IndexNum A c xs v w hn hA).mono ?_
  rintro e w1 ⟨rfl, hx⟩
  go_wp2_with fail
  go_ret
  exact ⟨by rw [← any_has, ← HI.out.2.2]; rfl, hx⟩
set_option maxRecDepth 100000 in
set_option maxHeartbeats 1600000 in
theorem c_freeOn (A0 : Option Addr) (c0 : Nat) (ps : List PersonD) (A1 : Option Addr) (c1 : Nat) (ns : List ByteArray) (day : Int) (w : World) (hp : peopleB ps = true) (hl1 : ns.length ≤ 12) (hA : RdPerson 0 w A0 ps) (hA1 : Rd strC 1 w A1 ns) :
    Calls Try.prog 43 #[.slice A0 ps.length c0, .slice A1 ns.length c1, .int .i64 day] w fun e w' => e = .returned (.int .i64 ((onTo ps ns day ps.length : Nat) : Int)) ∧ IsX w w' := by
  obtain ⟨hl, hd⟩ := people_bd hp
  have HD := hide hd
  obtain ⟨n, hnn⟩ : ∃ n, n = ps.length := ⟨_, rfl⟩
  have HN := hide hnn
  have HA := hide hA
  have HA1 := hide hA1
  rw [← hnn] at hl ⊢
  clear hnn hA hA1 hd
  go_enter Try.func43, Try.ntmps43
  go_wp2_with fail
  go_loopw [7, 12] (fun cv iv wr => ∃ i : Nat, i ≤ n ∧ iv = .int .i64 i ∧ cv = .int .i64 ((onTo ps ns day i : Nat) : Int) ∧ IsX w wr) (fun _ iv _ => n - (intOf iv).toNat)
  case atStart => exact ⟨0, Nat.zero_le _, rfl, rfl, IsX.refl _⟩
  case round =>
    obtain ⟨i, hi, rfl, rfl, p, rfl⟩ := hrel
    have hcl := on_le ps ns day i
    by_cases hlt : i < n
    · have hix : i < ps.length := HN.out ▸ hlt
      have HCS := hide (on_succ (ns := ns) (d := day) hix)
      obtain ⟨b, off, qA, qC, e0, hb, k0, k1, hR⟩ := RdPerson.rd HA.out (show ps[i]? = some ps[i] from List.getElem?_eq_getElem _)
      obtain ⟨z1, z2⟩ := HD.out _ (List.getElem_mem hix)
      have HR := hide hR
      subst e0
      obtain ⟨q, hq⟩ : ∃ q, q = onTo ps ns day i := ⟨_, rfl⟩
      rw [← hq] at hcl HCS ⊢
      clear hR z2 hq
      cases hs : hasStr ps[i].Name ns
      · rw [hs, Bool.false_and] at HCS
        go_wp2_with fail
        refine (cb (c_ContainsStr A1 c1 ns ps[i].Name _ (by omega) (HA1.out.x (IsX.alloc ⟨p, rfl⟩ _))) hs).mono ?_
        rintro e w5 ⟨rfl, hx5⟩
        have HX := hide (IsX.trans (IsX.alloc (w' := xt w p) ⟨p, rfl⟩ _) hx5)
        clear hx5
        go_wp2_with fail
        go_roundw
        case rel => exact ⟨i + 1, by omega, by go_num, by rw [HCS.out]; simp, HX.out⟩
        case measure => simp [intOf]; omega
      · rw [hs, Bool.true_and] at HCS
        go_wp2_with fail
        obtain ⟨W, hW⟩ : ∃ W, W = (xt w p).alloc (.cells #[.string ps[i].Name, .slice qA ps[i].Days.length qC] 51) := ⟨_, rfl⟩
        have hxv : IsX (xt w p) W := hW ▸ (IsX.refl (xt w p)).alloc _
        have hBv : Blk W (xt w p).heap.size 51 #[.string ps[i].Name, .slice qA ps[i].Days.length qC] := hW ▸ Blk.new (xt w p) _ _
        rw [← hW]
        have HXV := hide (IsX.trans (w' := xt w p) ⟨p, rfl⟩ hxv)
        have HBV := hide hBv
        clear hW hxv hBv k0 k1
        refine (cb (c_ContainsStr A1 c1 ns ps[i].Name W (by omega) (HA1.out.x HXV.out)) hs).mono ?_
        rintro e w5 ⟨rfl, hx5⟩
        have HX := hide (HXV.out.trans hx5)
        have hB5 := HBV.out.x hx5
        have g1 := hB5.cell 1
        simp at g1
        have g2 := hB5.lt
        clear hx5 hB5
        cases hf : hasB ps[i].Days day
        · rw [hf] at HCS
          go_wp2_with fail
          refine (cb (c_ContainsNum qA qC ps[i].Days day w5 (by omega) (HR.out.x HX.out)) hf).mono ?_
          rintro e w6 ⟨rfl, hx6⟩
          have HX6 := hide (HX.out.trans hx6)
          clear hx6
          go_wp2_with fail
          go_roundw
          case rel => exact ⟨i + 1, by omega, by go_num, by rw [HCS.out]; simp, HX6.out⟩
          case measure => simp [intOf]; omega
        · rw [hf] at HCS
          go_wp2_with fail
          refine (cb (c_ContainsNum qA qC ps[i].Days day w5 (by omega) (HR.out.x HX.out)) hf).mono ?_
          rintro e w6 ⟨rfl, hx6⟩
          have HX6 := hide (HX.out.trans hx6)
          clear hx6
          go_wp2_with fail
          go_roundw
          case rel => exact ⟨i + 1, by omega, by go_num, by rw [HCS.out]; simp, HX6.out⟩
          case measure => simp [intOf]; omega
    · obtain rfl : i = n := by omega
      go_wp2_with fail
      go_ret
      exact ⟨rfl, ⟨p, rfl⟩⟩

end Go.Proofs.Ytfkhhioadklomaa
