/- Offers by their starts: the order that the reference finds. Conditions: lists no longer than 2^20. -/
import Derived.Test.YthahbdpholpmkaaStartLaw
import Derived.Test.YthahbdpholpmkaaOpenSeatsFns
import Derived.Test.YthahbdpholpmkaaOffers
namespace Go.Proofs.Ythahbdpholpmkaa
set_option linter.unusedVariables false
open Go.RowKit

def startAt (xs : List OfferD) (p : Int) : Int := match xs[p.toNat]? with | some x => x.Start | none => 0
def ltS (xs : List OfferD) (a b : Int) : Bool := decide (startAt xs a < startAt xs b)
def idx (n : Nat) : List Int := (List.range n).map fun (i : Nat) => (i : Int)
theorem idx_succ (n : Nat) : idx (n + 1) = idx n ++ [(n : Int)] := by simp [idx, List.range_succ]
theorem idx_mem {n : Nat} {o : Int} : o ∈ idx n ↔ ∃ j : Nat, j < n ∧ o = (j : Int) := by
  simp only [idx, List.mem_map, List.mem_range]
  exact ⟨fun ⟨j, h, e⟩ => ⟨j, h, e.symm⟩, fun ⟨j, h, e⟩ => ⟨j, h, e.symm⟩⟩
theorem order_app {α : Type} (lt : α → α → Bool) (xs : List α) (x : α) : orderR lt (xs ++ [x]) = insR lt (orderR lt xs) x := by
  unfold orderR
  rw [List.foldl_append]; rfl
theorem order_idx_len (lt : Int → Int → Bool) (n : Nat) : (orderR lt (idx n)).length = n := by rw [orderR_len]; simp [idx]
theorem row_form {w : World} {base e size n : Nat} {v : Value} {L : List Value} (h : w.ownsRow base e size v (n + 1) L) : ∃ g c, v = .slice (some ⟨g, 0, none⟩) (n + 1) c ∧ n + 1 ≤ c := by
  rcases h.2 with ⟨_, h0⟩ | ⟨g, cap, cur, hv, _, _, h1, _⟩
  · omega
  · exact ⟨g, cap, hv, h1⟩
theorem row_cap {w : World} {base e size n m c : Nat} {A : Option Addr} {L : List Value} (h : w.ownsRow base e size (.slice A n c) m L) : m ≤ c := by
  rcases h.2 with ⟨_, h0⟩ | ⟨g, cap, cur, hv, _, _, h1, _⟩
  · omega
  · injection hv with _ _ hc; subst hc; exact h1
/-- a part of a slice, as a list -/
theorem Rd.part {w : World} {g n a m : Nat} {xs : List Int} (h : Rd intC 1 w (some ⟨g, 0, none⟩) xs) (_ : n = xs.length) : Rd intC 1 w (some ⟨g, a, none⟩) ((xs.drop a).take m) := fun i z hi => by
  rw [List.getElem?_take] at hi
  split at hi
  · rw [List.getElem?_drop] at hi
    obtain ⟨b, off, e1, hb, hcc⟩ := h _ z hi
    injection e1 with e1
    injection e1 with e1 e2
    subst e1 e2
    refine ⟨g, a, rfl, hb, fun j u hu => ?_⟩
    have := hcc j u hu
    rw [show 0 + (a + i) * 1 + j = a + i * 1 + j by omega] at this
    exact this
  · cases hi

set_option maxRecDepth 100000 in
set_option maxHeartbeats 6400000 in
theorem c_l22Order (lt : Int → Int → Bool) (A : Option Addr) (n c : Nat) (ks : List Int) (w : World) (hnn : n = ks.length) (hn : n ≤ 1048576) (hlt : ∀ (i j : Nat) (hi : i < ks.length) (hj : j < ks.length), lt (i : Int) (j : Int) = decide (ks[i] < ks[j])) (hA : Rd intC 1 w A ks) :
    Calls Try.prog 66 #[.slice A n c] w fun e w' => ∃ A' c', e = .returned (.slice A' n c') ∧ w'.ownsRow w.heap.size 2 1 (.slice A' n c') n ((orderR lt (idx n)).flatMap intC) ∧ IsX w w' := by
  have HI := hide (info_parts Int64_info)
  have HN := hide hnn
  have HLT := hide hlt
  have HKS := hide hA
  clear hnn hlt hA
  go_enter Try.func66, Try.ntmps66
  go_wp2_with fail
  have HO : Hid ((w.alloc (.cells #[] 2)).ownsRow w.heap.size 2 1 (.slice (some ⟨w.heap.size, 0, none⟩) 0 0) 0 []) := hide (World.ownsRow_made w #[] 0 (Nat.le_refl _) (by simp [maxLen]) rfl)
  go_loopw [3, 4] (fun ov iv wr => ∃ (i g co : Nat), i ≤ n ∧ ov = .slice (some ⟨g, 0, none⟩) i co ∧ iv = .int .i64 i ∧ Hid (wr.ownsRow w.heap.size 2 1 (.slice (some ⟨g, 0, none⟩) i co) i ((orderR lt (idx i)).flatMap intC)) ∧ i ≤ co ∧ IsX w wr) (fun _ iv _ => n - (intOf iv).toNat)
  case atStart => exact ⟨0, _, 0, Nat.zero_le _, rfl, rfl, HO, Nat.le_refl _, (IsX.refl w).alloc _⟩
  case round =>
    clear HO
    obtain ⟨i, g, co, hi, rfl, rfl, HO, hcap, hxw⟩ := hrel
    obtain ⟨W0, hW0⟩ : ∃ W0, W0 = wr := ⟨_, rfl⟩
    rw [← hW0] at HO hxw ⊢
    clear hW0
    have hw0 := hxw.size
    have HXW := hide hxw
    clear hxw
    by_cases hlin : i < n
    · have hix : i < ks.length := HN.out ▸ hlin
      obtain ⟨O, hO⟩ : ∃ O, O = orderR lt (idx i) := ⟨_, rfl⟩
      have HOE := hide hO
      have HOL := hide (show O.length = i by rw [hO]; exact order_idx_len lt i)
      have HMEM := hide (show ∀ o ∈ O, ∃ j : Nat, j < i ∧ o = (j : Int) from fun o ho => by rw [hO] at ho; exact idx_mem.1 (orderR_mem.1 ho))
      rw [← hO] at HO
      clear hO
      have HRD : Hid (Rd intC 1 W0 (some ⟨g, 0, none⟩) O) := hide (Rd.of_own (by omega) intC_len HO.out)
      obtain ⟨b, off, hAe, hb, ci⟩ := int_rd (HKS.out.x HXW.out) (show ks[i]? = some ks[i] from List.getElem?_eq_getElem _)
      have hcx : ∀ j (hj : j < ks.length), W0.cell? ⟨b, off + j, none⟩ = some (.int .i64 ks[j]) := fun j hj => by
        obtain ⟨b', off', e', _, cj⟩ := int_rd (HKS.out.x HXW.out) (show ks[j]? = some ks[j] from List.getElem?_eq_getElem _)
        rw [hAe] at e'
        injection e' with e'
        injection e' with e1 e2
        subst e1 e2
        exact cj
      have HCX := hide hcx
      subst hAe
      clear hcx
      go_wp2_with fail
      go_loopw [5] (fun av wr2 => ∃ a : Nat, a ≤ i ∧ av = .int .i64 a ∧ Hid (posR (lt (i : Int)) O i = posR (lt (i : Int)) O a) ∧ IsX W0 wr2) (fun av _ => (intOf av).toNat)
      case atStart => exact ⟨i, Nat.le_refl _, rfl, hide rfl, IsX.refl _⟩
      case round =>
        obtain ⟨a, ha, rfl, HPA, p2, rfl⟩ := hrel
        cases a with
        | zero =>
          rw [show (((0 : Nat) : Int)) = 0 from rfl]
          go_wp2_with fail
          refine wp_region_x (by kernel_rfl) (by kernel_rfl) ?_
          repeat (go_big_quiet_step (fail))
          refine wpQuiet_nil ?_
          rintro _ ⟨pq, rfl⟩
          obtain ⟨p3, hp3⟩ : IsX W0 (xt (xt W0 p2) pq) := IsX.xt ⟨p2, rfl⟩ pq
          rw [hp3]
          clear hp3
          have HP := hide (show posR (lt (i : Int)) O i = 0 from by rw [HPA.out]; rfl)
          have hatv : 0 ≤ i := by have := posR_le (lt (i : Int)) O i; rw [HP.out] at this; exact this
          go_wp2_with fail
          have htk : (O.take (0)).length = 0 := by rw [List.length_take, HOL.out]; omega
          have hown := c_l00Own (some ⟨g, 0, none⟩) co (O.take (0)) (xt W0 p3) (by rw [htk]; omega) (by have := (HRD.out.x (w' := xt W0 p3) ⟨p3, rfl⟩).part (a := 0) (m := 0) rfl; rw [List.drop_zero] at this; exact this)
          rw [htk] at hown
          refine hown.mono ?_
          rintro e w5 ⟨A5, c5, rfl, hO5, hx5⟩
          have HO5 : Hid (w5.ownsRow W0.heap.size 2 1 (.slice A5 (0) c5) (0) ((O.take (0)).flatMap intC)) := hide (by
            have := row_le hO5 (size_xt W0 p3)
            rw [htk] at this
            exact this)
          obtain ⟨p5, rfl⟩ := IsX.trans ⟨p3, rfl⟩ hx5
          clear hx5 hO5 hown htk
          have HPT : Hid (∀ (W : World) (hx : IsX W0 W), Reads W W.heap.size 1 (some ⟨g, 0, none⟩) (i) ((O.drop (0)).flatMap intC)) := hide (fun W hx => by
            have hdl : ((O.drop (0)).take (i - (0))) = O.drop (0) := List.take_of_length_le (by rw [List.length_drop, HOL.out]; omega)
            have h := ((HRD.out.x hx).part (a := 0) (m := i - (0)) rfl).reads (by omega) intC_len
            rw [hdl, List.length_drop, HOL.out] at h
            exact h)
          go_wp2_with first | (at_builtin; obtain ⟨i0, hi0, hz0, hz1, hz2⟩ := HI.out; refine wpList_append_any _ rfl (.tmp 39) (.tmp 41) _ rfl W0.heap.size 2 i0 _ 1 8 Try.underlying24 hi0 hz0 hz1 hz2 rfl (by omega) _ (0) ((O.take (0)).flatMap intC) rfl (HO5.out.alloc _) _ (some ⟨(xt W0 p5).heap.size, 0, none⟩) 1 1 [.int .i64 (i : Int)] rfl (one_reads' (xt W0 p5) 2 (i : Int)) (one_one' (i : Int)) (by simp only [maxLen]; omega) (by omega) (by have := size_xt W0 p5; simp; omega) ?_; clear hi0 hz0 hz1 hz2; intro v1 w1 hown1 hg1 hat1; have HO6 := hide hown1; have hx1 : IsX W0 w1 := IsX.grown (IsX.alloc (w' := xt W0 p5) ⟨p5, rfl⟩ _) hg1 (by intro z hz; exact (HO5.out.lt z hz).1); clear hown1 hg1 hat1; obtain ⟨p6, rfl⟩ := hx1) | (at_builtin; obtain ⟨i0, hi0, hz0, hz1, hz2⟩ := HI.out; refine wpList_append_any _ rfl (.tmp 43) (.tmp 46) _ rfl W0.heap.size 2 i0 _ 1 8 Try.underlying24 hi0 hz0 hz1 hz2 rfl (by omega) _ (0 + 1) ((O.take (0)).flatMap intC ++ [Value.int .i64 (i : Int)]) rfl HO6.out _ (some ⟨g, 0, none⟩) (i) (co) ((O.drop (0)).flatMap intC) rfl (HPT.out _ ⟨p6, rfl⟩) (cells_one _) (by simp only [maxLen]; omega) (by omega) (size_xt W0 p6) ?_; clear hi0 hz0 hz1 hz2; intro v1 w1 hown1 hg1 hat1; have HO7 := hide hown1; have hx1 : IsX W0 w1 := IsX.grown ⟨p6, rfl⟩ hg1 (by intro z hz; exact (HO6.out.lt z hz).1); clear hown1 hg1 hat1; obtain ⟨p7, rfl⟩ := hx1)
          have HO8 : Hid (_root_.Go.World.ownsRow (xt W0 p7) w.heap.size 2 1 v1 (i + 1) ((orderR lt (idx (i + 1))).flatMap intC)) := hide (by
            have h := row_le HO7.out hw0
            rw [show 0 + 1 + (i) = i + 1 by omega] at h
            rw [idx_succ, order_app, insR]
            rw [HOE.out] at HP
            rw [order_idx_len, HP.out, List.flatMap_append, List.flatMap_cons]
            rw [HOE.out, List.append_assoc] at h
            exact h)
          obtain ⟨g', c', hform, hcap'⟩ := row_form HO8.out
          subst hform
          go_roundw
          case rel => exact ⟨i + 1, g', c', by omega, rfl, by go_num, HO8, hcap', HXW.out.trans ⟨p7, rfl⟩⟩
          case measure => simp [intOf]; omega
        | succ a =>
          have hax : a < O.length := by have := HOL.out; omega
          obtain ⟨j, hji, hoj⟩ := HMEM.out _ (List.getElem_mem hax)
          have hjx : j < ks.length := by omega
          obtain ⟨b3, off3, e3, hb3, co3⟩ := int_rd HRD.out (show O[a]? = some O[a] from List.getElem?_eq_getElem _)
          injection e3 with e3
          injection e3 with e3 e3'
          subst e3 e3'
          simp only [Nat.zero_add] at co3
          rw [hoj] at co3
          have cj := HCX.out j hjx
          have HL := hide (HLT.out i j hix hjx)
          have hlx : lt (i : Int) O[a] = decide (ks[i] < ks[j]) := by rw [hoj]; exact HL.out
          obtain ⟨kv, hkv⟩ : ∃ kv, kv = ks[i] := ⟨_, rfl⟩
          obtain ⟨ku, hku⟩ : ∃ ku, ku = ks[j] := ⟨_, rfl⟩
          rw [← hkv] at ci
          rw [← hku] at cj
          rw [← hkv, ← hku] at hlx
          have HLX := hide hlx
          clear hkv hku hoj hlx
          rw [show (((a + 1 : Nat) : Int)) = (a : Int) + 1 from rfl]
          have hai : a < i := by omega
          have hjn : j < n := by omega
          by_cases hk : kv < ku
          · have HPS := hide (posR_go (g := lt (i : Int)) hax (by rw [HLX.out]; exact decide_eq_true hk))
            go_wp2_with fail
            refine wp_region_x (by kernel_rfl) (by kernel_rfl) ?_
            repeat (go_big_quiet_step (fail))
            refine wpQuiet_nil ?_
            rintro _ ⟨pq, rfl⟩
            go_wp2_with fail
            go_roundw
            case rel => exact ⟨a, by omega, by first | rfl | go_num, hide (by rw [HPA.out, HPS.out]), IsX.xt ⟨p2, rfl⟩ pq⟩
            case measure => simp [intOf]
          · have HPS := hide (posR_stop (g := lt (i : Int)) hax (by rw [HLX.out]; exact decide_eq_false hk))
            by_cases hce : a + 1 = co
            · obtain rfl : i = co := by omega
              have hia : i - (a + 1) = 0 := by omega
              clear hce
              go_wp2_with fail
              refine wp_region_x (by kernel_rfl) (by kernel_rfl) ?_
              repeat (go_big_quiet_step (fail))
              refine wpQuiet_nil ?_
              rintro _ ⟨pq, rfl⟩
              obtain ⟨p3, hp3⟩ : IsX W0 (xt (xt W0 p2) pq) := IsX.xt ⟨p2, rfl⟩ pq
              rw [hp3]
              clear hp3
              have HP := hide (show posR (lt (i : Int)) O i = a + 1 from by rw [HPA.out]; exact HPS.out)
              have hatv : a + 1 ≤ i := by have := posR_le (lt (i : Int)) O i; rw [HP.out] at this; exact this
              go_wp2_with fail
              have htk : (O.take (a + 1)).length = a + 1 := by rw [List.length_take, HOL.out]; omega
              have hown := c_l00Own (some ⟨g, 0, none⟩) i (O.take (a + 1)) (xt W0 p3) (by rw [htk]; omega) (by have := (HRD.out.x (w' := xt W0 p3) ⟨p3, rfl⟩).part (a := 0) (m := a + 1) rfl; rw [List.drop_zero] at this; exact this)
              rw [htk] at hown
              refine hown.mono ?_
              rintro e w5 ⟨A5, c5, rfl, hO5, hx5⟩
              have HO5 : Hid (w5.ownsRow W0.heap.size 2 1 (.slice A5 (a + 1) c5) (a + 1) ((O.take (a + 1)).flatMap intC)) := hide (by
                have := row_le hO5 (size_xt W0 p3)
                rw [htk] at this
                exact this)
              obtain ⟨p5, rfl⟩ := IsX.trans ⟨p3, rfl⟩ hx5
              clear hx5 hO5 hown htk
              have HPT : Hid (∀ (W : World) (hx : IsX W0 W), Reads W W.heap.size 1 (some ⟨g, 0, none⟩) (0) ((O.drop (a + 1)).flatMap intC)) := hide (fun W hx => by
                rw [List.drop_of_length_le (by rw [HOL.out]; omega)]; exact Reads.none_)
              go_wp2_with first | (at_builtin; obtain ⟨i0, hi0, hz0, hz1, hz2⟩ := HI.out; refine wpList_append_any _ rfl (.tmp 39) (.tmp 41) _ rfl W0.heap.size 2 i0 _ 1 8 Try.underlying24 hi0 hz0 hz1 hz2 rfl (by omega) _ (a + 1) ((O.take (a + 1)).flatMap intC) rfl (HO5.out.alloc _) _ (some ⟨(xt W0 p5).heap.size, 0, none⟩) 1 1 [.int .i64 (i : Int)] rfl (one_reads' (xt W0 p5) 2 (i : Int)) (one_one' (i : Int)) (by simp only [maxLen]; omega) (by omega) (by have := size_xt W0 p5; simp; omega) ?_; clear hi0 hz0 hz1 hz2; intro v1 w1 hown1 hg1 hat1; have HO6 := hide hown1; have hx1 : IsX W0 w1 := IsX.grown (IsX.alloc (w' := xt W0 p5) ⟨p5, rfl⟩ _) hg1 (by intro z hz; exact (HO5.out.lt z hz).1); clear hown1 hg1 hat1; obtain ⟨p6, rfl⟩ := hx1) | (at_builtin; obtain ⟨i0, hi0, hz0, hz1, hz2⟩ := HI.out; refine wpList_append_any _ rfl (.tmp 43) (.tmp 46) _ rfl W0.heap.size 2 i0 _ 1 8 Try.underlying24 hi0 hz0 hz1 hz2 rfl (by omega) _ (a + 1 + 1) ((O.take (a + 1)).flatMap intC ++ [Value.int .i64 (i : Int)]) rfl HO6.out _ (some ⟨g, 0, none⟩) (0) (0) ((O.drop (a + 1)).flatMap intC) rfl (HPT.out _ ⟨p6, rfl⟩) (cells_one _) (by simp only [maxLen]; omega) (by omega) (size_xt W0 p6) ?_; clear hi0 hz0 hz1 hz2; intro v1 w1 hown1 hg1 hat1; have HO7 := hide hown1; have hx1 : IsX W0 w1 := IsX.grown ⟨p6, rfl⟩ hg1 (by intro z hz; exact (HO6.out.lt z hz).1); clear hown1 hg1 hat1; obtain ⟨p7, rfl⟩ := hx1)
              have HO8 : Hid (_root_.Go.World.ownsRow (xt W0 p7) w.heap.size 2 1 v1 (i + 1) ((orderR lt (idx (i + 1))).flatMap intC)) := hide (by
                have h := row_le HO7.out hw0
                rw [show a + 1 + 1 + (0) = i + 1 by omega] at h
                rw [idx_succ, order_app, insR]
                rw [HOE.out] at HP
                rw [order_idx_len, HP.out, List.flatMap_append, List.flatMap_cons]
                rw [HOE.out, List.append_assoc] at h
                exact h)
              obtain ⟨g', c', hform, hcap'⟩ := row_form HO8.out
              subst hform
              go_roundw
              case rel => exact ⟨i + 1, g', c', by omega, rfl, by go_num, HO8, hcap', HXW.out.trans ⟨p7, rfl⟩⟩
              case measure => simp [intOf]; omega
            · go_wp2_with fail
              refine wp_region_x (by kernel_rfl) (by kernel_rfl) ?_
              repeat (go_big_quiet_step (fail))
              refine wpQuiet_nil ?_
              rintro _ ⟨pq, rfl⟩
              obtain ⟨p3, hp3⟩ : IsX W0 (xt (xt W0 p2) pq) := IsX.xt ⟨p2, rfl⟩ pq
              rw [hp3]
              clear hp3
              have HP := hide (show posR (lt (i : Int)) O i = a + 1 from by rw [HPA.out]; exact HPS.out)
              have hatv : a + 1 ≤ i := by have := posR_le (lt (i : Int)) O i; rw [HP.out] at this; exact this
              go_wp2_with fail
              have htk : (O.take (a + 1)).length = a + 1 := by rw [List.length_take, HOL.out]; omega
              have hown := c_l00Own (some ⟨g, 0, none⟩) co (O.take (a + 1)) (xt W0 p3) (by rw [htk]; omega) (by have := (HRD.out.x (w' := xt W0 p3) ⟨p3, rfl⟩).part (a := 0) (m := a + 1) rfl; rw [List.drop_zero] at this; exact this)
              rw [htk] at hown
              refine hown.mono ?_
              rintro e w5 ⟨A5, c5, rfl, hO5, hx5⟩
              have HO5 : Hid (w5.ownsRow W0.heap.size 2 1 (.slice A5 (a + 1) c5) (a + 1) ((O.take (a + 1)).flatMap intC)) := hide (by
                have := row_le hO5 (size_xt W0 p3)
                rw [htk] at this
                exact this)
              obtain ⟨p5, rfl⟩ := IsX.trans ⟨p3, rfl⟩ hx5
              clear hx5 hO5 hown htk
              have HPT : Hid (∀ (W : World) (hx : IsX W0 W), Reads W W.heap.size 1 (some ⟨g, a + 1, none⟩) (i - (a + 1)) ((O.drop (a + 1)).flatMap intC)) := hide (fun W hx => by
                have hdl : ((O.drop (a + 1)).take (i - (a + 1))) = O.drop (a + 1) := List.take_of_length_le (by rw [List.length_drop, HOL.out]; omega)
                have h := ((HRD.out.x hx).part (a := a + 1) (m := i - (a + 1)) rfl).reads (by omega) intC_len
                rw [hdl, List.length_drop, HOL.out] at h
                exact h)
              go_wp2_with first | (at_builtin; obtain ⟨i0, hi0, hz0, hz1, hz2⟩ := HI.out; refine wpList_append_any _ rfl (.tmp 39) (.tmp 41) _ rfl W0.heap.size 2 i0 _ 1 8 Try.underlying24 hi0 hz0 hz1 hz2 rfl (by omega) _ (a + 1) ((O.take (a + 1)).flatMap intC) rfl (HO5.out.alloc _) _ (some ⟨(xt W0 p5).heap.size, 0, none⟩) 1 1 [.int .i64 (i : Int)] rfl (one_reads' (xt W0 p5) 2 (i : Int)) (one_one' (i : Int)) (by simp only [maxLen]; omega) (by omega) (by have := size_xt W0 p5; simp; omega) ?_; clear hi0 hz0 hz1 hz2; intro v1 w1 hown1 hg1 hat1; have HO6 := hide hown1; have hx1 : IsX W0 w1 := IsX.grown (IsX.alloc (w' := xt W0 p5) ⟨p5, rfl⟩ _) hg1 (by intro z hz; exact (HO5.out.lt z hz).1); clear hown1 hg1 hat1; obtain ⟨p6, rfl⟩ := hx1) | (at_builtin; obtain ⟨i0, hi0, hz0, hz1, hz2⟩ := HI.out; refine wpList_append_any _ rfl (.tmp 43) (.tmp 46) _ rfl W0.heap.size 2 i0 _ 1 8 Try.underlying24 hi0 hz0 hz1 hz2 rfl (by omega) _ (a + 1 + 1) ((O.take (a + 1)).flatMap intC ++ [Value.int .i64 (i : Int)]) rfl HO6.out _ (some ⟨g, a + 1, none⟩) (i - (a + 1)) (co - (a + 1)) ((O.drop (a + 1)).flatMap intC) rfl (HPT.out _ ⟨p6, rfl⟩) (cells_one _) (by simp only [maxLen]; omega) (by omega) (size_xt W0 p6) ?_; clear hi0 hz0 hz1 hz2; intro v1 w1 hown1 hg1 hat1; have HO7 := hide hown1; have hx1 : IsX W0 w1 := IsX.grown ⟨p6, rfl⟩ hg1 (by intro z hz; exact (HO6.out.lt z hz).1); clear hown1 hg1 hat1; obtain ⟨p7, rfl⟩ := hx1)
              have HO8 : Hid (_root_.Go.World.ownsRow (xt W0 p7) w.heap.size 2 1 v1 (i + 1) ((orderR lt (idx (i + 1))).flatMap intC)) := hide (by
                have h := row_le HO7.out hw0
                rw [show a + 1 + 1 + (i - (a + 1)) = i + 1 by omega] at h
                rw [idx_succ, order_app, insR]
                rw [HOE.out] at HP
                rw [order_idx_len, HP.out, List.flatMap_append, List.flatMap_cons]
                rw [HOE.out, List.append_assoc] at h
                exact h)
              obtain ⟨g', c', hform, hcap'⟩ := row_form HO8.out
              subst hform
              go_roundw
              case rel => exact ⟨i + 1, g', c', by omega, rfl, by go_num, HO8, hcap', HXW.out.trans ⟨p7, rfl⟩⟩
              case measure => simp [intOf]; omega
    · obtain rfl : i = n := by omega
      go_wp2_with fail
      go_ret
      exact ⟨_, co, rfl, HO.out, HXW.out⟩

end Go.Proofs.Ythahbdpholpmkaa
