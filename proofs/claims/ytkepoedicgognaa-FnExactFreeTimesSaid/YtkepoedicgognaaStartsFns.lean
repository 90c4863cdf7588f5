/- Offers by their starts: the reference's list and the program's stable sort. Conditions: lists no longer than 2^20; the program's: fewer than 20 chosen. -/
import Derived.Test.YtkepoedicgognaaOrderFns
import Derived.Test.YtkepoedicgognaaSortLaid
import Derived.Sort.OwnSortedInts
import Derived.Deep.QuietTactic
namespace Go.Proofs.Ytkepoedicgognaa
set_option linter.unusedVariables false
open Go.RowKit Go.Sort

def startZ (xs : List OfferD) (ps : List Int) : List Int := orderR (ltS xs) ps
def atP (ps : List Int) (o : Int) : Int := ps.getD o.toNat 0
theorem atP_at {ps : List Int} {i : Nat} (h : i < ps.length) : atP ps (i : Int) = ps[i] := by simp [atP, h]
theorem idx_map (ps : List Int) : (idx ps.length).map (atP ps) = ps := by
  apply List.ext_getElem
  · simp [idx]
  · intro i h1 h2
    simp [idx, atP, h2]
theorem startZ_map (xs : List OfferD) (ps : List Int) : (orderR (fun a b => ltS xs (atP ps a) (atP ps b)) (idx ps.length)).map (atP ps) = startZ xs ps := by
  have h := orderR_map (atP ps) (ltS xs) (idx ps.length)
  rw [idx_map] at h
  exact h.symm
theorem startAt_at {xs : List OfferD} {p : Int} {j : Nat} (e : p = (j : Int)) (h : j < xs.length) : startAt xs p = xs[j].Start := by
  subst e
  simp [startAt, List.getElem?_eq_getElem h]
theorem startZ_mem {xs : List OfferD} {ps : List Int} {p : Int} : p ∈ startZ xs ps ↔ p ∈ ps := orderR_mem
theorem startZ_len (xs : List OfferD) (ps : List Int) : (startZ xs ps).length = ps.length := orderR_len _ _
theorem map_succ {f : Int → Int} {ps : List Int} {q : Nat} (h : q < ps.length) : (ps.take (q + 1)).map f = (ps.take q).map f ++ [f ps[q]] := by
  rw [List.take_succ_eq_append_getElem h, List.map_append]; rfl

set_option maxHeartbeats 3200000 in
theorem c_l22Starts (A0 : Option Addr) (c0 : Nat) (xs : List OfferD) (A1 : Option Addr) (c1 : Nat) (ps : List Int) (w : World) (hl0 : xs.length ≤ 1048576) (hl1 : ps.length ≤ 1048576) (hb : ∀ p ∈ ps, 0 ≤ p ∧ p < (xs.length : Int))
    (hA0 : Rd OfferD.cells 5 w A0 xs) (hA1 : Rd intC 1 w A1 ps) :
    Calls Try.prog 64 #[.slice A0 xs.length c0, .slice A1 ps.length c1] w fun e w' => ∃ A c, e = .returned (.slice A ps.length c) ∧ w'.ownsRow w.heap.size 2 1 (.slice A ps.length c) ps.length ((startZ xs ps).flatMap intC) ∧ IsX w w' := by
  have HI := hide (info_parts Int64_info)
  obtain ⟨n, hnn⟩ : ∃ n, n = ps.length := ⟨_, rfl⟩
  obtain ⟨m, hmm⟩ : ∃ m, m = xs.length := ⟨_, rfl⟩
  have HN := hide hnn
  have HM := hide hmm
  have HB := hide hb
  have HA0 := hide hA0
  have HA1 := hide hA1
  rw [← hnn] at hl1 ⊢
  rw [← hmm] at hl0 ⊢
  clear hnn hmm hb hA0 hA1
  go_enter Try.func64, Try.ntmps64
  go_wp2_with fail
  have HO : Hid ((w.alloc (.cells #[] 2)).ownsRow w.heap.size 2 1 (.slice (some ⟨w.heap.size, 0, none⟩) 0 0) 0 []) := hide (World.ownsRow_made w #[] 0 (Nat.le_refl _) (by simp [maxLen]) rfl)
  go_loopw [5, 6] (fun ov iv wr => ∃ q : Nat, q ≤ n ∧ iv = .int .i64 q ∧ Hid (wr.ownsRow w.heap.size 2 1 ov q (((ps.take q).map (startAt xs)).flatMap intC)) ∧ IsX w wr) (fun _ iv _ => n - (intOf iv).toNat)
  case atStart => exact ⟨0, Nat.zero_le _, rfl, HO, (IsX.refl w).alloc _⟩
  case round =>
    clear HO
    obtain ⟨q, hq, rfl, HO, p, rfl⟩ := hrel
    by_cases hlt : q < n
    · have hqx : q < ps.length := HN.out ▸ hlt
      obtain ⟨k1, k2⟩ := HB.out _ (List.getElem_mem hqx)
      obtain ⟨j, hj⟩ := Int.eq_ofNat_of_zero_le k1
      have hjx : j < xs.length := by omega
      have hjm : j < m := by have := HM.out; omega
      have HS := hide (map_succ (f := startAt xs) hqx)
      have HE := hide (startAt_at hj hjx)
      obtain ⟨b1, off1, e1, hb1, cq⟩ := int_rd HA1.out (show ps[q]? = some ps[q] from List.getElem?_eq_getElem _)
      obtain ⟨b0, off0, e0, hb0, d0, d1, d2, d3, d4⟩ := OfferD.rd HA0.out (show xs[j]? = some xs[j] from List.getElem?_eq_getElem _)
      rw [hj] at cq
      subst e0 e1
      clear hj k1 k2
      go_wp2_with (at_builtin; obtain ⟨i0, hi0, hz0, hz1, hz2⟩ := HI.out; refine wpList_append_any _ rfl (.tmp 17) (.tmp 26) _ rfl w.heap.size 2 i0 _ 1 8 Try.underlying23 hi0 hz0 hz1 hz2 rfl (by omega) _ q (((ps.take q).map (startAt xs)).flatMap intC) rfl (HO.out.alloc _) _ (some ⟨(xt w p).heap.size, 0, none⟩) 1 1 [.int .i64 xs[j].Start] rfl (one_reads' (xt w p) 2 xs[j].Start) (one_one' xs[j].Start) (by simp only [maxLen]; omega) (by omega) (by have := size_xt w p; simp; omega) ?_; clear hi0 hz0 hz1 hz2; intro v1 w1 hown1 hg1 hat1; have HO1 := hide hown1; have hx1 : IsX w w1 := IsX.grown (IsX.alloc (w' := xt w p) ⟨p, rfl⟩ _) hg1 (by intro z hz; exact (HO.out.lt z hz).1); clear hown1 hg1 hat1; obtain ⟨p1, rfl⟩ := hx1)
      go_roundw
      case rel => exact ⟨q + 1, by omega, by go_num, hide (by rw [HS.out, HE.out, List.flatMap_append]; exact HO1.out), ⟨p1, rfl⟩⟩
      case measure => simp [intOf]; omega
    · obtain rfl : q = n := by omega
      have hT : ps.take q = ps := by rw [HN.out]; exact List.take_length
      rw [hT] at HO
      clear hT
      obtain ⟨Ak, ck, hform⟩ := row_slice HO.out
      subst hform
      have hkl : q = (ps.map (startAt xs)).length := by rw [List.length_map]; exact HN.out
      have HKR : Hid (Rd intC 1 (xt w p) Ak (ps.map (startAt xs))) := hide (Rd.of_own (by omega) intC_len HO.out)
      have HKL := hide hkl
      clear hkl
      go_wp2_with fail
      refine (c_l22Order (fun a b => ltS xs (atP ps a) (atP ps b)) Ak q ck (ps.map (startAt xs)) (xt w p) HKL.out hl1 (fun i j hi hj => by
        simp only [List.length_map] at hi hj
        rw [atP_at hi, atP_at hj, List.getElem_map, List.getElem_map]; rfl) HKR.out).mono ?_
      rintro e W7 ⟨A7, c7, rfl, hO7, hx7⟩
      have HX7 := hide (IsX.trans ⟨p, rfl⟩ hx7)
      obtain ⟨O, hO⟩ : ∃ O, O = orderR (fun a b => ltS xs (atP ps a) (atP ps b)) (idx q) := ⟨_, rfl⟩
      have HOE := hide hO
      have HOL := hide (show O.length = q by rw [hO]; exact order_idx_len _ q)
      have HMEM := hide (show ∀ o ∈ O, ∃ j : Nat, j < q ∧ o = (j : Int) from fun o ho => by rw [hO] at ho; exact idx_mem.1 (orderR_mem.1 ho))
      rw [← hO] at hO7
      have HRD : Hid (Rd intC 1 W7 A7 O) := hide (Rd.of_own (by omega) intC_len hO7)
      have hw7 := (IsX.trans (w' := xt w p) ⟨p, rfl⟩ hx7).size
      clear hO hO7 hx7
      go_wp2_with fail
      have HO8 : Hid ((W7.alloc (.cells #[] 2)).ownsRow W7.heap.size 2 1 (.slice (some ⟨W7.heap.size, 0, none⟩) 0 0) 0 []) := hide (World.ownsRow_made W7 #[] 0 (Nat.le_refl _) (by simp [maxLen]) rfl)
      go_loopw [8, 9] (fun ov iv wr => ∃ k : Nat, k ≤ q ∧ iv = .int .i64 k ∧ Hid (wr.ownsRow W7.heap.size 2 1 ov k (((O.take k).map (atP ps)).flatMap intC)) ∧ IsX W7 wr) (fun _ iv _ => q - (intOf iv).toNat)
      case atStart => exact ⟨0, Nat.zero_le _, rfl, HO8, (IsX.refl W7).alloc _⟩
      case round =>
        clear HO8 HO HKR
        obtain ⟨k, hk, rfl, HO, p2, rfl⟩ := hrel
        by_cases hkq : k < q
        · have hkx : k < O.length := by have := HOL.out; omega
          obtain ⟨j, hjq, hoj⟩ := HMEM.out _ (List.getElem_mem hkx)
          have hjx : j < ps.length := by have := HN.out; omega
          have HS := hide (map_succ (f := atP ps) hkx)
          have HE := hide (show atP ps O[k] = ps[j] from by rw [hoj]; exact atP_at hjx)
          obtain ⟨b1, off1, e1, hb1, cj⟩ := int_rd (HA1.out.x HX7.out) (show ps[j]? = some ps[j] from List.getElem?_eq_getElem _)
          obtain ⟨b7, off7, e7, hb7, ck'⟩ := int_rd HRD.out (show O[k]? = some O[k] from List.getElem?_eq_getElem _)
          rw [hoj] at ck'
          subst e1 e7
          clear hoj
          go_wp2_with (at_builtin; obtain ⟨i0, hi0, hz0, hz1, hz2⟩ := HI.out; refine wpList_append_any _ rfl (.tmp 37) (.tmp 45) _ rfl W7.heap.size 2 i0 _ 1 8 Try.underlying23 hi0 hz0 hz1 hz2 rfl (by omega) _ k (((O.take k).map (atP ps)).flatMap intC) rfl (HO.out.alloc _) _ (some ⟨(xt W7 p2).heap.size, 0, none⟩) 1 1 [.int .i64 ps[j]] rfl (one_reads' (xt W7 p2) 2 ps[j]) (one_one' ps[j]) (by simp only [maxLen]; omega) (by omega) (by have := size_xt W7 p2; simp; omega) ?_; clear hi0 hz0 hz1 hz2; intro v1 w1 hown1 hg1 hat1; have HO1 := hide hown1; have hx1 : IsX W7 w1 := IsX.grown (IsX.alloc (w' := xt W7 p2) ⟨p2, rfl⟩ _) hg1 (by intro z hz; exact (HO.out.lt z hz).1); clear hown1 hg1 hat1; obtain ⟨p1, rfl⟩ := hx1)
          go_roundw
          case rel => exact ⟨k + 1, by omega, by go_num, hide (by rw [HS.out, HE.out, List.flatMap_append]; exact HO1.out), ⟨p1, rfl⟩⟩
          case measure => simp [intOf]; omega
        · obtain rfl : k = q := by omega
          have hT : O.take k = O := List.take_of_length_le (by rw [HOL.out]; omega)
          rw [hT] at HO
          clear hT
          obtain ⟨A', c', hform⟩ := row_slice HO.out
          subst hform
          have HZ := hide (show O.map (atP ps) = startZ xs ps by
            have := startZ_map xs ps
            rw [← HN.out, ← HOE.out] at this
            exact this)
          go_wp2_with fail
          go_ret
          refine ⟨A', c', rfl, ?_, HX7.out.trans ⟨p2, rfl⟩⟩
          have h := row_le HO.out hw7
          rw [HZ.out] at h
          exact h

theorem c_cnan (a : Int) (w : World) : Calls Try.prog 118 #[.int .i64 a] w fun e w' => e = .returned (.bool false) ∧ w = w' := by
  go_enter Try.func118, Try.ntmps118
  go_wp2
  go_ret
  exact ⟨by simp, rfl⟩
theorem c_Compare (a b : Int) (w : World) : Calls Try.prog 102 #[.int .i64 a, .int .i64 b] w fun e w' => e = .returned (.int .i64 (Lib.compareInt a b)) ∧ w' = w := by
  have hr : Lib.compareInt a b = if a < b then -1 else if b < a then 1 else 0 := rfl
  have HR := hide hr
  clear hr
  by_cases h1 : a < b
  · rw [if_pos h1] at HR
    go_enter Try.func102, Try.ntmps102
    go_wp2_with fail
    refine (c_cnan a w).mono ?_
    rintro e w1 ⟨rfl, rfl⟩
    go_wp2_with fail
    refine (c_cnan b w).mono ?_
    rintro e w1 ⟨rfl, rfl⟩
    go_wp2_with fail
    go_ret
    exact ⟨by rw [HR.out]; rfl, rfl⟩
  · rw [if_neg h1] at HR
    by_cases h2 : b < a
    · rw [if_pos h2] at HR
      go_enter Try.func102, Try.ntmps102
      go_wp2_with fail
      refine (c_cnan a w).mono ?_
      rintro e w1 ⟨rfl, rfl⟩
      go_wp2_with fail
      refine (c_cnan b w).mono ?_
      rintro e w1 ⟨rfl, rfl⟩
      go_wp2_with fail
      go_ret
      exact ⟨by rw [HR.out]; rfl, rfl⟩
    · rw [if_neg h2] at HR
      go_enter Try.func102, Try.ntmps102
      go_wp2_with fail
      refine (c_cnan a w).mono ?_
      rintro e w1 ⟨rfl, rfl⟩
      go_wp2_with fail
      refine (c_cnan b w).mono ?_
      rintro e w1 ⟨rfl, rfl⟩
      go_wp2_with fail
      go_ret
      exact ⟨by rw [HR.out]; rfl, rfl⟩
set_option maxHeartbeats 1600000 in
theorem c_byStart1 (bx : Nat) (A : Option Addr) (m c : Nat) (xs : List OfferD) (x y : Nat) (W : World) (hm : m = xs.length) (hx : x < xs.length) (hy : y < xs.length) (hbx : bx < W.heap.size) (hbox : W.cell? ⟨bx, 0, none⟩ = some (.slice A m c)) (hA : Rd OfferD.cells 5 W A xs) :
    Calls Try.prog 101 #[.int .i64 (x : Int), .int .i64 (y : Int), .pointer (some ⟨bx, 0, none⟩)] W fun e w' => e = .returned (.int .i64 (Lib.compareInt xs[x].Start xs[y].Start)) ∧ ∃ q, w' = W.drewN q := by
  obtain ⟨b, off, e0, hb, d0, d1, d2, d3, d4⟩ := OfferD.rd hA (show xs[x]? = some xs[x] from List.getElem?_eq_getElem _)
  obtain ⟨b', off', e1, hb', k0, k1, k2, k3, k4⟩ := OfferD.rd hA (show xs[y]? = some xs[y] from List.getElem?_eq_getElem _)
  rw [e0] at e1
  injection e1 with e1
  injection e1 with e1 e2
  subst e1 e2 e0
  have hxm : x < m := by omega
  have hym : y < m := by omega
  clear hA d0 d1 d3 d4 k0 k1 k3 k4 hm
  obtain ⟨sx, hsx⟩ : ∃ s, s = xs[x].Start := ⟨_, rfl⟩
  obtain ⟨sy, hsy⟩ : ∃ s, s = xs[y].Start := ⟨_, rfl⟩
  rw [← hsx] at d2
  rw [← hsy] at k2
  rw [← hsx, ← hsy]
  clear hsx hsy
  go_enter Try.func101, Try.ntmps101
  go_wp2_with fail
  go_quiet ((go_at_call 102; refine Calls.quiet_of_same (c_Compare _ _ _)))
  go_wp2_with fail
  go_ret
  exact ⟨rfl, nq, rfl⟩
theorem c_insC0 (A : Option Addr) (c : Nat) (f : Value) (w : World) : Calls Try.prog 134 #[.slice A 0 c, .int .i64 0, .int .i64 ((0 : Nat) : Int), f] w fun e w' => e = .returned (.tuple #[]) ∧ w = w' := by
  rw [show (((0 : Nat) : Int)) = 0 from rfl]
  go_enter Try.func134, Try.ntmps134
  go_wp2_with fail
  go_loopw [8] (fun iv wr => iv = .int .i64 1 ∧ w = wr) (fun _ _ => 0)
  case atStart => exact ⟨rfl, rfl⟩
  case round =>
    obtain ⟨rfl, rfl⟩ := hrel
    go_wp2_with fail
    go_end0
    exact ⟨rfl, rfl⟩
theorem c_stable {R : World → Prop} (s f : Value) (n : Nat) (w : World) (hn : n < 20) (h : Calls Try.prog 134 #[s, .int .i64 0, .int .i64 (n : Int), f] w fun e w' => e = .returned (.tuple #[]) ∧ R w') :
    Calls Try.prog 117 #[s, .int .i64 (n : Int), f] w fun e w' => e = .returned (.tuple #[]) ∧ R w' := by
  go_enter Try.func117, Try.ntmps117
  go_wp2_with fail
  go_loopw [7, 8] (fun av bv wr => av = .int .i64 0 ∧ bv = .int .i64 20 ∧ w = wr) (fun _ _ _ => 0)
  case atStart => exact ⟨rfl, rfl, rfl⟩
  case round =>
    obtain ⟨rfl, rfl, rfl⟩ := hrel
    go_wp2_with fail
    refine h.mono ?_
    rintro e w1 ⟨rfl, hR⟩
    have HR := hide hR
    clear hR h
    go_wp2_with fail
    go_loopw [6] (fun bv wr => bv = .int .i64 20 ∧ w1 = wr) (fun _ _ => 0)
    case atStart => exact ⟨rfl, rfl⟩
    case round =>
      obtain ⟨rfl, rfl⟩ := hrel
      go_wp2_with fail
      go_end0
      exact ⟨rfl, HR.out⟩
theorem c_SortStable {R : World → Prop} (A : Option Addr) (n c : Nat) (f : Value) (w : World) (h : Calls Try.prog 117 #[.slice A n c, .int .i64 (n : Int), f] w fun e w' => e = .returned (.tuple #[]) ∧ R w') :
    Calls Try.prog 100 #[.slice A n c, f] w fun e w' => e = .returned (.tuple #[]) ∧ R w' := by
  go_enter Try.func100, Try.ntmps100
  go_wp2_with fail
  refine h.mono ?_
  rintro e w1 ⟨rfl, hR⟩
  have HR := hide hR
  clear hR h
  go_wp2_with fail
  go_end0
  exact ⟨rfl, HR.out⟩
section
variable {α : Type} [Inhabited α] {enc : α → Value} {w : World} {g m : Nat} {os : Array Obj} {cur : Array Value} {e : TypeId}
theorem sw_grown (d : Array α) : w.grownBy (sortWorld enc w g 0 m d os) (some g) := by
  unfold sortWorld
  refine ⟨rfl, rfl, rfl, by simp, fun k hk hne => ?_⟩
  rw [heap_grow_old _ _ (by simpa using hk)]
  have : g ≠ k := fun e => hne (by rw [e])
  simp [putRow, mapBlock, Sort.ahead, Array.getElem?_modify, this]
theorem sw_heap (d : Array α) (hb : w.heap[g]? = some (.cells cur e (0, 0))) : (sortWorld enc w g 0 m d os).heap[g]? = some (.cells (putCells enc 0 d cur) e (0, 0)) := by
  have hg : g < w.heap.size := (Array.getElem?_eq_some_iff.1 hb).1
  unfold sortWorld
  rw [heap_grow_old _ _ (by simpa using hg)]
  simp [putRow, mapBlock, Sort.ahead, Array.getElem?_modify, hb, onCells]
theorem sw_take (ts : List α) (h : ts.length ≤ cur.size) : (putCells enc 0 ts.toArray cur).toList.take ts.length = ts.map enc := by
  apply List.ext_getElem?
  intro j
  by_cases hj : j < ts.length
  · rw [List.getElem?_take_of_lt hj, Array.getElem?_toList]
    simp [putCells, hj, show j < cur.size by omega]
  · rw [List.getElem?_take_eq_none (by omega), List.getElem?_eq_none (by simp; omega)]
theorem sw_holds {ss : List α} (hb : w.heap[g]? = some (.cells cur e (0, 0))) (ht : cur.toList.take ss.length = ss.map enc) : Holds enc w g 0 ss.toArray := by
  intro j hj
  have hj' : j < ss.length := by simpa using hj
  refine ⟨?_, by simp [World.frozen?, hb]⟩
  have h1 : (cur.toList.take ss.length)[j]? = (ss.map enc)[j]? := by rw [ht]
  rw [List.getElem?_take_of_lt hj'] at h1
  simp only [World.cell?, hb, Nat.zero_add]
  simp only [Option.isSome_none, Bool.false_eq_true, if_false]
  rw [← Array.getElem?_toList, h1]
  simp [hj']
end
theorem lt_of_compare (a b : Int) : decide (Lib.compareInt a b < 0) = decide (a < b) := by
  unfold Lib.compareInt
  by_cases h1 : a < b
  · simp [h1]
  · rw [if_neg h1]
    by_cases h2 : a > b
    · rw [if_pos h2]; simp [h1]
    · rw [if_neg h2]; simp [h1]
theorem c_sortStarts (w0 : World) (bx : Nat) (A0 : Option Addr) (m c0 : Nat) (xs : List OfferD) (A : Option Addr) (c : Nat) (zs : List Int) (base : Nat) (w : World) (hmm : m = xs.length) (hO : Own intC 1 2 w base (.slice A zs.length c) zs) (hx : IsX w0 w) (hb : w0.heap.size ≤ base)
    (hbx : bx < w0.heap.size) (hbox : w0.cell? ⟨bx, 0, none⟩ = some (.slice A0 m c0)) (hA0 : Rd OfferD.cells 5 w0 A0 xs) (hm : ∀ z ∈ zs, 0 ≤ z ∧ z < (xs.length : Int)) (hn : zs.length < 20) :
    Calls Try.prog 100 #[.slice A zs.length c, .func (.func 101) #[] #[.pointer (some ⟨bx, 0, none⟩)]] w fun e w' => e = .returned (.tuple #[]) ∧ w'.ownsRow base 2 1 (.slice A zs.length c) zs.length ((startZ xs zs).flatMap intC) ∧ IsX w0 w' := by
  refine c_SortStable (R := fun w' => w'.ownsRow base 2 1 (.slice A zs.length c) zs.length ((startZ xs zs).flatMap intC) ∧ IsX w0 w') A zs.length c _ w (c_stable _ _ _ w hn ?_)
  rcases Nat.eq_zero_or_pos zs.length with hz | hz
  · have hz' := List.eq_nil_of_length_eq_zero hz
    subst hz'
    refine (c_insC0 A c _ w).mono ?_
    rintro e w1 ⟨rfl, rfl⟩
    exact ⟨rfl, hO, hx⟩
  · rcases hO.2 with ⟨_, h0⟩ | ⟨g, cap, cur, hv, hg, hh, h1, h2, h3, h4⟩
    · omega
    · injection hv with hA _ hc
      subst hA
      subst hc
      have hN : 0 < xs.length := by
        obtain ⟨z1, z2⟩ := hm _ (List.getElem_mem hz)
        omega
      obtain ⟨N, hNe⟩ : ∃ N, xs.length = N + 1 := ⟨xs.length - 1, by omega⟩
      obtain ⟨fs, hfs⟩ : ∃ fs : List (Fin (N + 1)), fs = zs.map (fun z => Fin.ofNat (N + 1) z.toNat) := ⟨_, rfl⟩
      have hfl : fs.length = zs.length := by rw [hfs, List.length_map]
      have hfz : fs.map (fun i => ((i.val : Nat) : Int)) = zs := by
        rw [hfs, List.map_map]
        conv => rhs; rw [← List.map_id zs]
        apply List.map_congr_left
        intro z hz
        obtain ⟨z1, z2⟩ := hm z hz
        have : z.toNat % (N + 1) = z.toNat := Nat.mod_eq_of_lt (by omega)
        simp [Fin.ofNat, this]; omega
      have hflat : ∀ l : List (Fin (N + 1)), (l.map (fun i => ((i.val : Nat) : Int))).flatMap intC = l.map (fun i => Value.int .i64 ((i.val : Nat) : Int)) := fun l => by
        induction l with
        | nil => rfl
        | cons a l ih => simp only [List.map_cons, List.flatMap_cons, ih]; rfl
      have h4' : cur.toList.take fs.length = fs.map (fun i => Value.int .i64 ((i.val : Nat) : Int)) := by
        rw [← hflat, hfz, hfl, ← h4, Nat.mul_one]
      have hord : (orderR (fun a b => ltS xs ((a.val : Nat) : Int) ((b.val : Nat) : Int)) fs).map (fun i : Fin (N + 1) => ((i.val : Nat) : Int)) = startZ xs zs := by
        have := orderR_map (fun i : Fin (N + 1) => ((i.val : Nat) : Int)) (ltS xs) fs
        rw [hfz] at this
        exact this.symm
      have hglt : g < w.heap.size := (Array.getElem?_eq_some_iff.1 hh).1
      haveI : Inhabited (Fin (N + 1)) := ⟨⟨0, by omega⟩⟩
      have hcf : ∀ (x y : Fin (N + 1)), Lib.compareInt (startAt xs ((x.val : Nat) : Int)) (startAt xs ((y.val : Nat) : Int)) = Lib.compareInt (xs[x.val]'(by omega)).Start (xs[y.val]'(by omega)).Start := fun x y => by
        rw [startAt_at rfl (show x.val < xs.length by omega), startAt_at rfl (show y.val < xs.length by omega)]
      have hlt : ltOf (fun (x y : Fin (N + 1)) => Lib.compareInt (startAt xs ((x.val : Nat) : Int)) (startAt xs ((y.val : Nat) : Int))) = fun a b => ltS xs ((a.val : Nat) : Int) ((b.val : Nat) : Int) := by
        funext x y
        simp only [ltOf, ltS]
        exact lt_of_compare _ _
      have hsz : fs.toArray.size = zs.length := by simp [hfl]
      have key := Try.insertionSortCmpFunc_one (fun i : Fin (N + 1) => Value.int .i64 ((i.val : Nat) : Int)) (fun _ => rfl) (fun x y => Lib.compareInt (startAt xs ((x.val : Nat) : Int)) (startAt xs ((y.val : Nat) : Int))) 101 #[.pointer (some ⟨bx, 0, none⟩)] g 0 c 0 zs.length fs.toArray w
        (enters_of Try.func101 (by kernel_rfl) rfl) (fun k os dk hdk x y => by
          have hxx : IsX w0 (sortWorld (fun i : Fin (N + 1) => Value.int .i64 ((i.val : Nat) : Int)) w g 0 k dk os) := hx.grown (row := some g) (sw_grown dk) (by intro z hz; injection hz with hz; omega)
          have := c_byStart1 bx A0 m c0 xs x.val y.val _ hmm (by omega) (by omega) (Nat.lt_of_lt_of_le hbx hxx.size) (keep hxx hbx hbox) (hA0.x hxx)
          rw [← hcf] at this
          exact this)
        (sw_holds hh h4') (Nat.zero_le _) (by rw [hsz]; exact Nat.le_refl _) (by rw [hsz]; omega)
      rw [hsz] at key
      refine key.mono ?_
      rintro e w1 ⟨rfl, k, rfl⟩
      have hsl := sort_list (fun (a b : Fin (N + 1)) => ltS xs ((a.val : Nat) : Int) ((b.val : Nat) : Int)) fs
      rw [hlt, ← hfl, hsl, ← sortWorld_none]
      refine ⟨rfl, ⟨?_, .inr ⟨g, c, _, rfl, hg, sw_heap _ hh, by omega, h2, ?_, ?_⟩⟩, ?_⟩
      · rw [flat_len intC_len, startZ_len, hfl]
      · simp [putCells, h3]
      · rw [Nat.mul_one, ← orderR_len (fun (a b : Fin (N + 1)) => ltS xs ((a.val : Nat) : Int) ((b.val : Nat) : Int)) fs, sw_take _ (by rw [orderR_len, hfl]; omega), ← hord, hflat]
      · exact hx.grown (row := some g) (sw_grown _) (by intro z hz; injection hz with hz; omega)
set_option maxHeartbeats 1600000 in
theorem c_byStart (A0 : Option Addr) (c0 : Nat) (xs : List OfferD) (A1 : Option Addr) (c1 : Nat) (ps : List Int) (w : World) (hl1 : ps.length < 20) (hb : ∀ p ∈ ps, 0 ≤ p ∧ p < (xs.length : Int)) (hA0 : Rd OfferD.cells 5 w A0 xs) (hA1 : Rd intC 1 w A1 ps) :
    Calls Try.prog 68 #[.slice A0 xs.length c0, .slice A1 ps.length c1] w fun e w' => ∃ A c, e = .returned (.slice A ps.length c) ∧ w'.ownsRow w.heap.size 2 1 (.slice A ps.length c) ps.length ((startZ xs ps).flatMap intC) ∧ IsX w w' := by
  obtain ⟨m, hmm⟩ : ∃ m, m = xs.length := ⟨_, rfl⟩
  have HM := hide hmm
  have HB := hide hb
  have HA0 := hide hA0
  have HA1 := hide hA1
  rw [← hmm]
  clear hmm hb hA0 hA1
  go_enter Try.func68, Try.ntmps68
  go_wp2_with fail
  obtain ⟨W, hW⟩ : ∃ W, W = w.alloc (.cells #[.slice A0 m c0] 53) := ⟨_, rfl⟩
  have HX : Hid (IsX w W) := hide (hW ▸ (IsX.refl w).alloc _)
  have hB : Blk W w.heap.size 53 #[.slice A0 m c0] := hW ▸ Blk.new w _ _
  rw [← hW]
  have HBX := hide (hB.cell 0)
  have HLT := hide hB.lt
  clear hW hB
  refine (c_Clone A1 c1 ps W (by omega) (HA1.out.x HX.out)).mono ?_
  rintro e w2 ⟨A2, c2, rfl, hO, hx2⟩
  have HO := hide hO
  have HX2 := hide hx2
  clear hO hx2
  go_wp2_with fail
  refine (c_sortStarts W w.heap.size A0 m c0 xs A2 c2 ps W.heap.size w2 HM.out HO.out HX2.out (Nat.le_refl _) HLT.out HBX.out (HA0.out.x HX.out) HB.out hl1).mono ?_
  rintro e w3 ⟨rfl, hO3, hx3⟩
  have HO3 := hide hO3
  have HX3 := hide hx3
  clear hO3 hx3
  go_wp2_with fail
  go_ret
  exact ⟨A2, c2, rfl, row_le HO3.out HX.out.size, HX.out.trans HX3.out⟩

end Go.Proofs.Ytkepoedicgognaa
