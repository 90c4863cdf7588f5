/- FadeLevels of the program: levels between others. Conditions: lists no longer than 2^40. -/
import Derived.Test.YthcgapfhlggegaaLevels
import Derived.Deep.RegionHeld3
namespace Go.Proofs.Ythcgapfhlggegaa
set_option linter.unusedVariables false
open Go.RowKit

/-- what FnLights asks of faded levels -/
def FadeP (xs ys zs : List Int) (code : Int) : Prop := (code ≠ 0 ∧ zs = []) ∨ (code = 0 ∧ xs.length ≤ 512 ∧ ys.length = xs.length ∧ zs.length = xs.length ∧ ∀ i (h : i < xs.length) (h2 : i < ys.length) (h3 : i < zs.length), min xs[i] ys[i] ≤ zs[i] ∧ zs[i] ≤ max xs[i] ys[i])
def FadeQ (w : World) (xs ys : List Int) (e : Ending) (w' : World) : Prop := ∃ (A : Option Addr) (c : Nat) (zs : List Int) (code : Int), e = .returned (.tuple #[.slice A zs.length c, .int .i64 code]) ∧ FadeP xs ys zs code ∧ w'.ownsRow w.heap.size 2 1 (.slice A zs.length c) zs.length (zs.flatMap intC) ∧ IsX w w'
theorem FadeQ.bad {w w' : World} {xs ys : List Int} {code : Int} (hx : IsX w w') (hc : code ≠ 0) : FadeQ w xs ys (.returned (.tuple #[.slice none 0 0, .int .i64 code])) w' :=
  ⟨none, 0, [], code, rfl, .inl ⟨hc, rfl⟩, World.ownsRow_nil _ _ _ _, hx⟩
theorem fade_in {x y s r : Int} (hx : 0 ≤ x ∧ x ≤ 255) (hy : 0 ≤ y ∧ y ≤ 255) (hs : 0 ≤ s ∧ s ≤ 1000) (hr : NearP ((y - x) * s) r) : min x y ≤ x + r ∧ x + r ≤ max x y := by
  unfold NearP at hr
  rcases Int.le_total x y with h | h
  · have h1 : 0 ≤ (y - x) * s := Int.mul_nonneg (by omega) hs.1
    have h2 : (y - x) * s ≤ (y - x) * 1000 := Int.mul_le_mul_of_nonneg_left hs.2 (by omega)
    generalize (y - x) * s = p at *
    omega
  · have h1 : 0 ≤ (x - y) * s := Int.mul_nonneg (by omega) hs.1
    have h2 : (x - y) * s ≤ (x - y) * 1000 := Int.mul_le_mul_of_nonneg_left hs.2 (by omega)
    have e : (y - x) * s = -((x - y) * s) := by rw [← Int.neg_mul]; congr 1; omega
    rw [e] at hr
    generalize (x - y) * s = p at *
    omega
theorem fade_bd {x y s : Int} (hx : 0 ≤ x ∧ x ≤ 255) (hy : 0 ≤ y ∧ y ≤ 255) (hs : 0 ≤ s ∧ s ≤ 1000) : -255000 ≤ (y - x) * s ∧ (y - x) * s ≤ 255000 := by
  rcases Int.le_total x y with h | h
  · have h1 : 0 ≤ (y - x) * s := Int.mul_nonneg (by omega) hs.1
    have h2 : (y - x) * s ≤ (y - x) * 1000 := Int.mul_le_mul_of_nonneg_left hs.2 (by omega)
    omega
  · have h1 : 0 ≤ (x - y) * s := Int.mul_nonneg (by omega) hs.1
    have h2 : (x - y) * s ≤ (x - y) * 1000 := Int.mul_le_mul_of_nonneg_left hs.2 (by omega)
    have e : (y - x) * s = -((x - y) * s) := by rw [← Int.neg_mul]; congr 1; omega
    rw [e]
    omega
set_option maxHeartbeats 6400000 in
set_option maxRecDepth 100000 in
theorem c_FadeLevels (A : Option Addr) (c : Nat) (xs : List Int) (A2 : Option Addr) (c2 : Nat) (ys : List Int) (s : Int) (w : World) (hn : xs.length ≤ 1099511627776) (hn2 : ys.length ≤ 1099511627776) (hA : Rd intC 1 w A xs) (hA2 : Rd intC 1 w A2 ys) :
    Calls Try.prog 16 #[.slice A xs.length c, .slice A2 ys.length c2, .int .i64 s] w (FadeQ w xs ys) := by
  have HC1 := hide (fun (V : World) (hV : IsX w V) => c_areLevels A c xs V hn (hA.x hV))
  have HC2 := hide (fun (V : World) (hV : IsX w V) => c_areLevels A2 c2 ys V hn2 (hA2.x hV))
  obtain ⟨n, hnn⟩ : ∃ n, n = xs.length := ⟨_, rfl⟩
  have HN := hide hnn
  rw [← hnn] at hn HC1 ⊢
  clear hnn
  obtain ⟨n2, hnn⟩ : ∃ n2, n2 = ys.length := ⟨_, rfl⟩
  have HN2 := hide hnn
  rw [← hnn] at hn2 HC2 ⊢
  clear hnn
  have HA := hide hA
  have HA2 := hide hA2
  clear hA hA2
  cases hs : inB s 0 1000
  · go_enter Try.func16, Try.ntmps16
    go_wp2_with (go_at_call 23; refine (c_within _ _ _ _).mono ?_; rintro e w' ⟨rfl, rfl⟩)
    go_ret2
    exact FadeQ.bad (IsX.refl _) (by omega)
  cases h1 : levelsB xs
  · rw [h1] at HC1
    clear h1
    go_enter Try.func16, Try.ntmps16
    go_wp2_with (go_at_call 23; refine (c_within _ _ _ _).mono ?_; rintro e w' ⟨rfl, rfl⟩)
    refine (HC1.out _ (IsX.refl _)).mono ?_
    rintro e w1 ⟨rfl, hx⟩
    go_wp2_with fail
    go_ret2
    exact FadeQ.bad hx (by omega)
  have HL1 := hide (levels_of h1)
  rw [h1] at HC1
  clear h1
  cases h1 : levelsB ys
  · rw [h1] at HC2
    clear h1
    go_enter Try.func16, Try.ntmps16
    go_wp2_with (go_at_call 23; refine (c_within _ _ _ _).mono ?_; rintro e w' ⟨rfl, rfl⟩)
    refine (HC1.out _ (IsX.refl _)).mono ?_
    rintro e w1 ⟨rfl, hx⟩
    have HX := hide hx
    clear hx
    go_wp2_with fail
    refine (HC2.out _ HX.out).mono ?_
    rintro e w2 ⟨rfl, hx⟩
    go_wp2_with fail
    go_ret2
    exact FadeQ.bad (HX.out.trans hx) (by omega)
  have HL2 := hide (levels_of h1)
  rw [h1] at HC2
  clear h1
  have HMK := hide (fun (m : Nat) (hm : m ≤ 1099511627776) (V : World) => make_ints m hm V)
  have hmk := HMK.out n hn
  go_enter Try.func16, Try.ntmps16
  go_wp2_with (go_at_call 23; refine (c_within _ _ _ _).mono ?_; rintro e w' ⟨rfl, rfl⟩)
  refine (HC1.out _ (IsX.refl _)).mono ?_
  rintro e w1 ⟨rfl, hx⟩
  have HX := hide hx
  clear hx
  go_wp2_with fail
  refine (HC2.out _ HX.out).mono ?_
  rintro e w2 ⟨rfl, hx⟩
  have HX2 := hide (HX.out.trans hx)
  clear hx HX HC1 HC2
  by_cases hlen : n = n2
  rotate_left
  · go_wp2_with fail
    go_ret2
    exact FadeQ.bad HX2.out (by omega)
  subst hlen
  obtain ⟨hs0, hs1⟩ := inB_true.1 hs
  have hn512 : n ≤ 512 := by rw [HN.out]; exact HL1.out.1
  go_wp2_with fail
  obtain ⟨g, hg⟩ : ∃ g, g = w2.heap.size := ⟨_, rfl⟩
  generalize hw3 : World.alloc w2 _ = w3
  have hB3 : Blk w3 g 2 (intArr (List.replicate n 0)) := by rw [← hw3, hg]; exact Blk.new w2 _ _
  have hx3 : IsX w w3 := by rw [← hw3]; exact HX2.out.alloc _
  have hwg : w.heap.size ≤ g := by rw [hg]; exact HX2.out.size
  rw [← hg]
  have HX3 := hide hx3
  have HB3 := hide hB3
  clear hw3 hg hx3 hB3 HX2 hmk HMK hs
  go_wp2_with fail
  go_loopw [35] (fun iv wr => ∃ (k : Nat) (cur : List Int), k ≤ n ∧ iv = .int .i64 k ∧ Hid (cur.length = n ∧ ∀ i (h : i < xs.length) (h2 : i < ys.length) (h3 : i < cur.length), i < k → min xs[i] ys[i] ≤ cur[i] ∧ cur[i] ≤ max xs[i] ys[i]) ∧ Hid (Blk wr g 2 (intArr cur)) ∧ Hid (IsX w wr)) (fun iv _ => n - (intOf iv).toNat)
  case atStart => exact ⟨0, List.replicate n 0, Nat.zero_le _, rfl, hide ⟨by simp, fun i _ _ _ hi => absurd hi (by omega)⟩, HB3, HX3⟩
  case round =>
    clear HB3 HX3
    obtain ⟨k, cur, hk, rfl, HCU, HB, HX⟩ := hrel
    by_cases hlt : k < n
    · have hltx : k < xs.length := HN.out ▸ hlt
      have hlty : k < ys.length := HN2.out ▸ hlt
      obtain ⟨b, off, e, hb, c0⟩ := int_rd (HA.out.x HX.out) (show xs[k]? = some xs[k] from List.getElem?_eq_getElem _)
      subst e
      obtain ⟨b2, off2, e, hb2, d0⟩ := int_rd (HA2.out.x HX.out) (show ys[k]? = some ys[k] from List.getElem?_eq_getElem _)
      subst e
      have hbw : b < w.heap.size := by
        obtain ⟨_, _, e, h, _⟩ := HA.out k _ (List.getElem?_eq_getElem hltx)
        injection e with e; injection e with e1 e2; omega
      have hb2w : b2 < w.heap.size := by
        obtain ⟨_, _, e, h, _⟩ := HA2.out k _ (List.getElem?_eq_getElem hlty)
        injection e with e; injection e with e1 e2; omega
      have hxb := HL1.out.2 _ (List.getElem_mem hltx)
      have hyb := HL2.out.2 _ (List.getElem_mem hlty)
      have hcur : k < cur.length := by rw [HCU.out.1]; exact hlt
      have hIN := fun r => fade_in (r := r) hxb hyb ⟨hs0, hs1⟩
      have hBD := fade_bd hxb hyb ⟨hs0, hs1⟩
      generalize hx : xs[k] = x at c0 hxb hIN hBD
      generalize hy : ys[k] = y at d0 hyb hIN hBD
      have HXE := hide hx
      have HYE := hide hy
      have HIN := hide hIN
      obtain ⟨x0, x1⟩ := hxb
      obtain ⟨y0, y1⟩ := hyb
      obtain ⟨m0, m1⟩ := hBD
      clear hx hy hIN
      have HNR := hide (fun (V : World) (hV : IsX wr V) => c_nearest ((y - x) * s) V ⟨m0, m1⟩)
      have HK1 := hide (fun (V : World) (hV : IsX wr V) => show V.cell? ⟨b, off + k, none⟩ = some (.int .i64 x) from keep hV hb c0)
      have HK2 := hide (fun (V : World) (hV : IsX wr V) => show V.cell? ⟨b2, off2 + k, none⟩ = some (.int .i64 y) from keep hV hb2 d0)
      have hne1 : g ≠ b := by omega
      have hne2 : g ≠ b2 := by omega
      have hB := HB.out
      have q0 : wr.cell? ⟨g, k, none⟩ = some (.int .i64 cur[k]) := (hB.cell k).trans (intArr_get (List.getElem?_eq_getElem hcur))
      have hlg := hB.lt
      have hfg := hB.frozen k
      clear hB
      have hw1 : IntKind.i64.wrap (y - x) = y - x := IntWalk.i64_in _ (by omega)
      have hw2 : IntKind.i64.wrap ((y - x) * s) = (y - x) * s := IntWalk.i64_in _ (by omega)
      go_wp2_with fail
      go_region_held3 (fun V => V.cell? ⟨b, off + k, none⟩ = some (.int .i64 x) ∧ V.cell? ⟨b2, off2 + k, none⟩ = some (.int .i64 y))
        (first | go_keep | (exact ⟨k71, k72⟩) | (rw [World.cell?_setCell_far _ _ _ _ (show g ≠ b by omega), World.cell?_setCell_far _ _ _ _ (show g ≠ b2 by omega)]; exact ⟨k71, k72⟩))
        ((go_at_call 33; (try rw [hw1]); (try rw [hw2]); refine (HNR.out _ (IsX.drew (IsX.refl _))).mono ?_; rintro e w7 ⟨r, rfl, hr, hx7'⟩
          have hx7 : IsX wr w7 := (IsX.drew (IsX.refl wr)).trans hx7'
          have k71 := HK1.out _ hx7
          have k72 := HK2.out _ hx7
          have B7 := HB.out.x hx7
          have q7 : w7.cell? ⟨g, k, none⟩ = some (.int .i64 cur[k]) := (B7.cell k).trans (intArr_get (List.getElem?_eq_getElem hcur))
          have lg7 := B7.lt
          have fg7 := B7.frozen k
          have hrb : -256 ≤ r ∧ r ≤ 256 := by unfold NearP at hr; omega
          obtain ⟨r0, r1⟩ := hrb
          have hw3 : IntKind.i64.wrap (x + r) = x + r := IntWalk.i64_in _ (by omega)))
      all_goals
        have HBN := hide (blk_set (j := k) B7 (x + r))
        have HXN : Hid (IsX w _) := hide ((HX.out.trans hx7).setCell (a := ⟨g, k, none⟩) hwg (.int .i64 (x + r)))
        have HR := hide (HIN.out r hr)
        clear hr hx7' hx7 k71 k72 B7 q7 lg7 fg7 q0 hlg hfg c0 d0 hw1 hw2 hw3
        go_wp2_with fail
        go_roundw
        case rel => exact ⟨k + 1, cur.set k (x + r), by omega, by go_num, hide ⟨by rw [List.length_set]; exact HCU.out.1, fun i h h2 h3 hi => by
          rw [List.getElem_set]
          by_cases e : k = i
          · subst e
            rw [if_pos rfl, HXE.out, HYE.out]; exact HR.out
          · rw [if_neg e]; exact HCU.out.2 i h h2 (by simpa using h3) (by omega)⟩, HBN, HXN⟩
        case measure => simp [intOf]; omega
    · obtain rfl : k = n := by omega
      go_wp2_with fail
      go_ret2
      have hl := HCU.out.1
      refine ⟨some ⟨g, 0, none⟩, k, cur, 0, by rw [hl]; rfl, .inr ⟨rfl, by rw [← HN.out]; exact hn512, by rw [← HN.out, ← HN2.out], by rw [← HN.out]; exact hl, fun i h h2 h3 => HCU.out.2 i h h2 h3 (by have := HN.out; omega)⟩, ?_, HX.out⟩
      have h := HB.out.own' (base := w.heap.size) (t := 2) intC_len hwg (by rw [hl]; simp only [maxLen]; omega)
      rw [hl] at h ⊢
      unfold Own at h
      simpa [hl] using h
end Go.Proofs.Ythcgapfhlggegaa
