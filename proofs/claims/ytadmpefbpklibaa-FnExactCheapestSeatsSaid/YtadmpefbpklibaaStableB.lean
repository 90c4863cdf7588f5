/- The library's stable sort of a row of numbers: the insertion sort of a block. Conditions: the row is the call's own; the comparing closure answers as told and leaves what was there. -/
import Derived.Test.YtadmpefbpklibaaStableA
import Derived.Lib.Small
namespace Go.Proofs.Ytadmpefbpklibaa
set_option linter.unusedVariables false
open Go.RowKit Go.Sort

/-- the comparing closure: it orders by pr, and may make memory -/
def CmpOk (pr : Int → Int) (ok : Int → Prop) (bx : Nat) (w0 : World) : Prop :=
  ∀ W, IsX w0 W → ∀ x y, ok x → ok y → Calls Try.prog 23 #[.int .i64 x, .int .i64 y, .pointer (some ⟨bx, 0, none⟩)] W fun e w' => e = .returned (.int .i64 (Lib.compareInt (pr x) (pr y))) ∧ IsX W w'
theorem cmp_lt {a b : Int} (h : a < b) : Lib.compareInt a b < 0 := by unfold Lib.compareInt; rw [if_pos h]; omega
theorem cmp_ge {a b : Int} (h : ¬ a < b) : ¬ Lib.compareInt a b < 0 := by unfold Lib.compareInt; rw [if_neg h]; split <;> omega
def BlockPost (pr : Int → Int) (g N c : Nat) (w0 : World) (P X S : List Int) (e : Ending) (w' : World) : Prop := e = .returned (.tuple #[]) ∧ ∃ Z : List Int, Z.Perm X ∧ Srt pr Z ∧ RowAt g N c w0 w' (P ++ (Z ++ S))
set_option maxHeartbeats 6400000 in
set_option maxRecDepth 100000 in
theorem c_insSort (pr : Int → Int) (ok : Int → Prop) (bx : Nat) (P X S : List Int) (a b N c g : Nat) (w0 w : World) (hcmp : CmpOk pr ok bx w0) (ha : a = P.length) (hb : b = P.length + X.length) (hX : X.Pairwise (· < ·)) (hok : ∀ x ∈ X, ok x) (hN : N ≤ 1099511627776)
    (h : RowAt g N c w0 w (P ++ (X ++ S))) :
    Calls Try.prog 48 #[.slice (some ⟨g, 0, none⟩) N c, .int .i64 (a : Int), .int .i64 (b : Int), .func (.func 23) #[] #[.pointer (some ⟨bx, 0, none⟩)]] w (BlockPost pr g N c w0 P X S) := by
  have hbN : b ≤ N := by have := h.len; simp at this; omega
  have HCMP := hide hcmp
  have HX := hide hX
  have HOK := hide hok
  have HPL := hide ha
  obtain ⟨n, hn⟩ : ∃ n, n = X.length := ⟨_, rfl⟩
  have HN := hide hn
  have hbn : b = a + n := by omega
  have HST : Hid (∃ Z : List Int, Z.Perm (X.take 1) ∧ Srt pr Z ∧ RowAt g N c w0 w (P ++ (Z ++ (X.drop 1 ++ S)))) := hide ⟨X.take 1, List.Perm.refl _, by
    cases X with
    | nil => exact List.Pairwise.nil
    | cons x r => exact List.pairwise_singleton _ _, by rw [← List.append_assoc (X.take 1), List.take_append_drop]; exact h⟩
  have HBN := hide hbn
  have haN : a ≤ N := by omega
  clear hcmp hX hok ha hn h hbn hb
  go_enter Try.func48, Try.ntmps48
  go_wp2_with fail
  go_loopw [8] (fun iv wr => ∃ q : Nat, 1 ≤ q ∧ q ≤ n + 1 ∧ iv = .int .i64 ((a : Int) + (q : Int)) ∧ Hid (∃ Z : List Int, Z.Perm (X.take q) ∧ Srt pr Z ∧ RowAt g N c w0 wr (P ++ (Z ++ (X.drop q ++ S))))) (fun iv _ => b + 1 - (intOf iv).toNat)
  case atStart => exact ⟨1, Nat.le_refl _, by omega, by go_num, HST⟩
  case round =>
    clear HST
    obtain ⟨q, hq1, hq, rfl, HZ⟩ := hrel
    obtain ⟨Z, hp, hs, hr⟩ := HZ.out
    by_cases hlt : q < n
    · have hqx : q < X.length := HN.out ▸ hlt
      obtain ⟨u, hu⟩ : ∃ u, u = X[q] := ⟨_, rfl⟩
      have hd : X.drop q = u :: X.drop (q + 1) := by rw [hu]; exact List.drop_eq_getElem_cons hqx
      have hZl : Z.length = q := by rw [hp.length_eq, List.length_take]; omega
      have HZL := hide hZl
      have HS := hide hs
      have HP := hide hp
      have HZU : Hid (∀ z ∈ Z, z < u ∧ ok z) := hide (fun z hz => by
        have hz' := hp.mem_iff.1 hz
        obtain ⟨j, hj, e⟩ := List.getElem_of_mem hz'
        rw [List.getElem_take] at e
        simp at hj
        refine ⟨?_, HOK.out _ (List.mem_of_mem_take hz')⟩
        rw [← e, hu]
        exact List.pairwise_iff_getElem.1 HX.out j q (by omega) hqx (by omega))
      have HUO : Hid (ok u) := hide (by rw [hu]; exact HOK.out _ (List.getElem_mem hqx))
      have HTK : Hid (X.take (q + 1) = X.take q ++ [u]) := hide (by rw [hu]; exact List.take_succ_eq_append_getElem hqx)
      have HST : Hid (RowAt g N c w0 wr ((P ++ Z.take q) ++ u :: (Z.drop q ++ (X.drop (q + 1) ++ S)))) := hide (by
        rw [List.take_of_length_le (Nat.le_of_eq hZl), List.drop_of_length_le (Nat.le_of_eq hZl), List.nil_append]
        rw [hd] at hr
        simpa using hr)
      clear hr hs hp hd hu hZl
      have hlz : ((a : Int) + (q : Int)) < (b : Int) := by have := HBN.out; omega
      have hiq : (a : Int) + (q : Int) + 1 = (a : Int) + ((q + 1 : Nat) : Int) := by omega
      have HIQ := hide hiq
      clear hiq
      go_wp2_with fail
      go_loopw [9] (fun jv wr => ∃ r : Nat, r ≤ q ∧ jv = .int .i64 ((a : Int) + (r : Int)) ∧ Hid (∀ k (h : k < Z.length), r ≤ k → pr u < pr Z[k]) ∧ Hid (RowAt g N c w0 wr ((P ++ Z.take r) ++ u :: (Z.drop r ++ (X.drop (q + 1) ++ S))))) (fun jv _ => (intOf jv).toNat)
      case atStart => exact ⟨q, Nat.le_refl _, rfl, hide (fun k h hk => by have := HZL.out; omega), HST⟩
      case round =>
        clear HST
        obtain ⟨r, hrq, rfl, HGT, HR⟩ := hrel
        rcases Nat.eq_zero_or_pos r with hr0 | hr0
        · subst hr0
          have HRES := hide (show Srt pr (Z.take 0 ++ u :: Z.drop 0) from ins_srt HS.out (fun k _ hk => by omega) (fun k hk _ => .inl (HGT.out k hk (by omega))))
          have hg0 : decide ((a : Int) + ((0 : Nat) : Int) > (a : Int)) = false := decide_eq_false (by omega)
          have hg1 : ¬ (a : Int) < (a : Int) + ((0 : Nat) : Int) := by omega
          go_wp2_with fail
          refine wp_region_x (by kernel_rfl) (by kernel_rfl) ?_
          repeat (go_big_quiet_step (fail))
          refine wpQuiet_nil ?_
          rintro _ ⟨p, rfl⟩
          have HR2 := hide (HR.out.x ⟨p, rfl⟩)
          go_wp2_with fail
          go_roundw
          case rel => exact ⟨q + 1, by omega, by omega, by rw [HIQ.out], hide ⟨_, by rw [HTK.out]; exact (ins_perm Z u 0).trans ((HP.out.cons u).trans (List.perm_append_comm (l₁ := [u]))), HRES.out, by simpa using HR2.out⟩⟩
          case measure => have := HBN.out; simp [intOf]; omega
        · obtain ⟨r, rfl⟩ : ∃ r', r = r' + 1 := ⟨r - 1, by omega⟩
          have hrz : r < Z.length := by have := HZL.out; omega
          obtain ⟨z, hz⟩ : ∃ z, z = Z[r] := ⟨_, rfl⟩
          have hzu := HZU.out z (by rw [hz]; exact List.getElem_mem hrz)
          have HZ1 := hide (show Z.take (r + 1) = Z.take r ++ [z] by rw [hz]; exact List.take_succ_eq_append_getElem hrz)
          have HZ2 := hide (show Z.drop r = z :: Z.drop (r + 1) by rw [hz]; exact List.drop_eq_getElem_cons hrz)
          have hrow := HR.out
          rw [HZ1.out] at hrow
          have HR1 : Hid (RowAt g N c w0 wr ((P ++ Z.take r) ++ z :: u :: (Z.drop (r + 1) ++ (X.drop (q + 1) ++ S)))) := hide (by simpa using hrow)
          have hQl : a + r = (P ++ Z.take r).length := by have := HPL.out; have := HZL.out; simp; omega
          have HQL := hide hQl
          have c0 := HR1.out.cell (k := a + r) (get_mid hQl)
          have c1 := HR1.out.cell (k := a + (r + 1)) (show _ = some u from get_mid2 (M := []) (by rw [← hQl]; simp; omega))
          have z0 := HR1.out.fz (a + r)
          have z1 := HR1.out.fz (a + (r + 1))
          have hlg := HR1.out.lt
          have HC := hide (fun W (hW : IsX wr W) => HCMP.out W (HR1.out.1.trans hW) u z HUO.out hzu.2)
          have HB := hide hrow
          obtain ⟨ja, hja⟩ : ∃ ja, ja = a + r := ⟨_, rfl⟩
          obtain ⟨jb, hjb⟩ : ∃ jb, jb = a + (r + 1) := ⟨_, rfl⟩
          have tb : ((a : Int) + ((r + 1 : Nat) : Int)) = (jb : Int) := by omega
          have ta : (jb : Int) - 1 = (ja : Int) := by omega
          have hba : (a : Int) < (jb : Int) := by omega
          have bb : jb < N := by have := HBN.out; omega
          have bba : ja < N := by have := HBN.out; omega
          have hne : jb ≠ ja := by omega
          have HJB := hide hjb
          have HJA := hide hja
          rw [← hja] at c0 z0 HQL
          rw [← hjb] at c1 z1
          rw [tb]
          have HTB := hide tb
          have HBND := hide bba
          clear hrow hja hjb tb hQl HR hzu hr0
          have hg0 : decide ((jb : Int) > (a : Int)) = true := decide_eq_true hba
          by_cases hcv : pr u < pr z
          · have hcl := cmp_lt hcv
            have HGT2 := hide (show ∀ k (h : k < Z.length), r ≤ k → pr u < pr Z[k] from fun k h hk => by
              by_cases e : r = k
              · subst e; rw [← hz]; exact hcv
              · exact HGT.out k h (by omega))
            clear hcv hz
            generalize Lib.compareInt (pr u) (pr z) = cv at hcl HC
            go_wp2_with fail
            refine wp_region_x (by kernel_rfl) (by kernel_rfl) ?_
            repeat (go_big_quiet_step ((go_at_call 23; exact call_x (HC.out _ ⟨_, rfl⟩))))
            refine wpQuiet_nil ?_
            rintro _ ⟨p, rfl⟩
            have HR2 := hide (HR1.out.x ⟨p, rfl⟩)
            replace c0 := keep ⟨p, rfl⟩ hlg c0
            replace c1 := keep ⟨p, rfl⟩ hlg c1
            clear z0 z1
            have z0 := HR2.out.fz ja
            have z1 := HR2.out.fz jb
            replace hlg := HR2.out.lt
            clear HR1 HC
            generalize xt wr p = wq at *
            go_wp2_with fail
            go_region
            have HR3 := hide ((HR2.out.swap' (k := ja) (l := jb) HQL.out (by rw [← HQL.out, HJA.out, HJB.out]; omega)).x (IsX.drew (IsX.refl _)))
            clear c0 c1 z0 z1 hlg HR2 hcl
            go_wp2_with fail
            go_roundw
            case rel => exact ⟨r, by omega, by rw [HJA.out]; go_num, HGT2, hide (by rw [HZ2.out]; simpa using HR3.out)⟩
            case measure => have := HBN.out; simp [intOf]; omega
          · have hcl := cmp_ge hcv
            have HRES := hide (show Srt pr (Z.take (r + 1) ++ u :: Z.drop (r + 1)) from ins_srt HS.out (fun k hk hkr => by
              have h1 := (HZU.out _ (List.getElem_mem hk)).1
              have h2 : pr Z[k] ≤ pr z := by
                by_cases e : k = r
                · subst e; rw [hz]; exact Int.le_refl _
                · rw [hz]; exact (List.pairwise_iff_getElem.1 HS.out k r hk hrz (by omega)).le
              unfold Bef; omega) (fun k hk hkr => .inl (HGT.out k hk hkr)))
            clear hcv hz
            generalize Lib.compareInt (pr u) (pr z) = cv at hcl HC
            go_wp2_with fail
            refine wp_region_x (by kernel_rfl) (by kernel_rfl) ?_
            repeat (go_big_quiet_step ((go_at_call 23; exact call_x (HC.out _ ⟨_, rfl⟩))))
            refine wpQuiet_nil ?_
            rintro _ ⟨p, rfl⟩
            have HR2 := hide (HR1.out.x ⟨p, rfl⟩)
            clear c0 c1 z0 z1 hlg HR1 HC
            generalize xt wr p = wq at *
            go_wp2_with fail
            go_roundw
            case rel => exact ⟨q + 1, by omega, by omega, by rw [HIQ.out], hide ⟨_, by rw [HTK.out]; exact (ins_perm Z u (r + 1)).trans ((HP.out.cons u).trans (List.perm_append_comm (l₁ := [u]))), HRES.out, by rw [HZ1.out]; simpa using HR2.out⟩⟩
            case measure => have := HBN.out; simp [intOf]; omega
    · have HRES := hide (show Z.Perm X from by rw [List.take_of_length_le (by have := HN.out; omega)] at hp; exact hp)
      have HR := hide (show RowAt g N c w0 wr (P ++ (Z ++ S)) by
        rw [List.drop_of_length_le (by have := HN.out; omega), List.nil_append] at hr
        exact hr)
      have HS := hide hs
      have hlz : ¬ ((a : Int) + (q : Int)) < (b : Int) := by have := HBN.out; omega
      clear hr hs hp
      go_wp2_with fail
      go_end0
      exact ⟨rfl, Z, HRES.out, HS.out, HR.out⟩

end Go.Proofs.Ytadmpefbpklibaa
