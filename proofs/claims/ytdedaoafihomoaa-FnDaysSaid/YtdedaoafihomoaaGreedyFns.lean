/- A day chosen one offer after the other: GreedyDay of the reference and of the program. Conditions: lists no longer than 2^40. -/
import Derived.Test.YtdedaoafihomoaaGreedyLaw
import Derived.Test.YtdedaoafihomoaaIsDay
import Derived.Test.YtdedaoafihomoaaPutFns
import Derived.Test.YtdedaoafihomoaaSortFns
import Derived.Deep.QuietTactic
import Derived.Deep.RegionHeldLaw
import Derived.Test.YtdedaoafihomoaaTail
namespace Go.Proofs.Ytdedaoafihomoaa
set_option linter.unusedVariables false
open Go.RowKit Go.Sort

theorem flat_ints (us : List Int) : us.flatMap intC = us.map (Value.int .i64) := flat_int us
def intArr (us : List Int) : Array Value := (us.flatMap intC).toArray
theorem intArr_len (us : List Int) : (intArr us).size = us.length := by simp [intArr, flat_ints]
theorem intArr_get {us : List Int} {j : Nat} {v : Int} (h : us[j]? = some v) : (intArr us)[j]? = some (.int .i64 v) := by simp [intArr, flat_ints, h]
theorem intArr_set (us : List Int) (j : Nat) (v : Int) : (intArr us).setIfInBounds j (.int .i64 v) = intArr (us.set j v) := by simp [intArr, flat_ints, List.map_set]
theorem made_ints (n : Nat) : madeCells (Value.int .i64 0).cells (n * 1) = intArr (List.replicate n 0) := by
  have e : (Value.int .i64 0).cells = #[.int .i64 0] := rfl
  rw [e, Nat.mul_one]
  apply Array.toList_inj.1
  rw [toList_madeCells_one]
  simp [intArr, flat_ints]
theorem blk_set {w : World} {g t j : Nat} {us : List Int} (h : Blk w g t (intArr us)) (v : Int) : Blk (w.setCell ⟨g, j, none⟩ (.int .i64 v)) g t (intArr (us.set j v)) := by
  have := h.set_ j (.int .i64 v)
  rwa [intArr_set] at this
theorem make_ints (n : Nat) (hn : n ≤ 1099511627776) (W : World) :
    (Instr.makeSlice 27 (.int .i64 (n : Int)) (.int .i64 (n : Int))).run Try.prog W = .ok (.slice (some ⟨W.heap.size, 0, none⟩) n n) (W.alloc (.cells (intArr (List.replicate n 0)) 2)) := by
  obtain ⟨i0, hi0, hz0, hz1, hz2⟩ := info_parts Int64_info
  have h := run_make_rowN (P := Try.prog) 27 2 i0 _ Try.underlying27 hi0 hz0 .i64 .i64 n n (Nat.le_refl _) (by rw [hz2]; omega) (by omega) W
  rw [hz1, made_ints] at h
  exact h
theorem c_cnan (a : Int) (w : World) : Calls Try.prog 35 #[.int .i64 a] w fun e w' => e = .returned (.bool false) ∧ w = w' := by
  go_enter Try.func35, Try.ntmps35
  go_wp2
  go_ret
  exact ⟨by simp, rfl⟩
theorem c_Compare (a b : Int) (w : World) : Calls Try.prog 22 #[.int .i64 a, .int .i64 b] w fun e w' => e = .returned (.int .i64 (Lib.compareInt a b)) ∧ w' = w := by
  have hr : Lib.compareInt a b = if a < b then -1 else if b < a then 1 else 0 := rfl
  have HR := hide hr
  clear hr
  by_cases h1 : a < b
  · rw [if_pos h1] at HR
    go_enter Try.func22, Try.ntmps22
    go_wp2_with fail
    refine (c_cnan a w).mono ?_
    rintro e w1 ⟨rfl, rfl⟩
    go_wp2_with fail
    refine (c_cnan b w).mono ?_
    rintro e w1 ⟨rfl, rfl⟩
    go_wp2_with fail
    go_ret
    exact ⟨by rw [HR.out]; rfl, rfl⟩
  · rw [if_neg h1] at HR
    by_cases h2 : b < a
    · rw [if_pos h2] at HR
      go_enter Try.func22, Try.ntmps22
      go_wp2_with fail
      refine (c_cnan a w).mono ?_
      rintro e w1 ⟨rfl, rfl⟩
      go_wp2_with fail
      refine (c_cnan b w).mono ?_
      rintro e w1 ⟨rfl, rfl⟩
      go_wp2_with fail
      go_ret
      exact ⟨by rw [HR.out]; rfl, rfl⟩
    · rw [if_neg h2] at HR
      go_enter Try.func22, Try.ntmps22
      go_wp2_with fail
      refine (c_cnan a w).mono ?_
      rintro e w1 ⟨rfl, rfl⟩
      go_wp2_with fail
      refine (c_cnan b w).mono ?_
      rintro e w1 ⟨rfl, rfl⟩
      go_wp2_with fail
      go_ret
      exact ⟨by rw [HR.out]; rfl, rfl⟩

set_option maxHeartbeats 1600000 in
theorem c_greedy1 (bx : Nat) (A : Option Addr) (m c : Nat) (xs : List OfferD) (x y : Nat) (W : World) (hm : m = xs.length) (hv : offersB xs = true) (hx : x < xs.length) (hy : y < xs.length) (hbx : bx < W.heap.size) (hbox : W.cell? ⟨bx, 0, none⟩ = some (.slice A m c)) (hA : Rd OfferD.cells 5 W A xs) :
    Calls Try.prog 21 #[.int .i64 (x : Int), .int .i64 (y : Int), .pointer (some ⟨bx, 0, none⟩)] W fun e w' => e = .returned (.int .i64 (Lib.compareInt (xs[x].Start + xs[x].Length) (xs[y].Start + xs[y].Length))) ∧ ∃ q, w' = W.drewN q := by
  have ox := offers_small hv _ (List.getElem_mem hx)
  have oy := offers_small hv _ (List.getElem_mem hy)
  obtain ⟨b, off, e0, hb, d0, d1, d2, d3, d4⟩ := OfferD.rd hA (show xs[x]? = some xs[x] from List.getElem?_eq_getElem _)
  obtain ⟨b', off', e1, hb', k0, k1, k2, k3, k4⟩ := OfferD.rd hA (show xs[y]? = some xs[y] from List.getElem?_eq_getElem _)
  rw [e0] at e1
  injection e1 with e1
  injection e1 with e1 e2
  subst e1 e2 e0
  have hxm : x < m := by omega
  have hym : y < m := by omega
  clear hA d0 d1 d4 k0 k1 k4 hm hv
  obtain ⟨sx, hsx⟩ : ∃ s, s = xs[x].Start := ⟨_, rfl⟩
  obtain ⟨sy, hsy⟩ : ∃ s, s = xs[y].Start := ⟨_, rfl⟩
  obtain ⟨lx, hlx⟩ : ∃ s, s = xs[x].Length := ⟨_, rfl⟩
  obtain ⟨ly, hly⟩ : ∃ s, s = xs[y].Length := ⟨_, rfl⟩
  rw [← hsx] at d2 ox
  rw [← hsy] at k2 oy
  rw [← hlx] at d3 ox
  rw [← hly] at k3 oy
  rw [← hsx, ← hsy, ← hlx, ← hly]
  obtain ⟨o1, o2, o3, o4⟩ := ox
  obtain ⟨o5, o6, o7, o8⟩ := oy
  clear hsx hsy hlx hly
  go_enter Try.func21, Try.ntmps21
  go_wp2_with fail
  go_quiet ((go_at_call 22; refine Calls.quiet_of_same (c_Compare _ _ _)))
  go_wp2_with fail
  go_ret
  exact ⟨rfl, nq, rfl⟩
def orderP (xs : List OfferD) (zs : List Int) : List Int := orderR (ltE xs) zs
theorem orderP_len (xs : List OfferD) (zs : List Int) : (orderP xs zs).length = zs.length := orderR_len _ _
theorem c_insC0 (A : Option Addr) (c : Nat) (f : Value) (w : World) : Calls Try.prog 43 #[.slice A 0 c, .int .i64 0, .int .i64 ((0 : Nat) : Int), f] w fun e w' => e = .returned (.tuple #[]) ∧ w = w' := by
  rw [show (((0 : Nat) : Int)) = 0 from rfl]
  go_enter Try.func43, Try.ntmps43
  go_wp2_with fail
  go_loopw [8] (fun iv wr => iv = .int .i64 1 ∧ w = wr) (fun _ _ => 0)
  case atStart => exact ⟨rfl, rfl⟩
  case round =>
    obtain ⟨rfl, rfl⟩ := hrel
    go_wp2_with fail
    go_end0
    exact ⟨rfl, rfl⟩
theorem c_stable {R : World → Prop} (s f : Value) (n : Nat) (w : World) (hn : n < 20) (h : Calls Try.prog 43 #[s, .int .i64 0, .int .i64 (n : Int), f] w fun e w' => e = .returned (.tuple #[]) ∧ R w') :
    Calls Try.prog 34 #[s, .int .i64 (n : Int), f] w fun e w' => e = .returned (.tuple #[]) ∧ R w' := by
  go_enter Try.func34, Try.ntmps34
  go_wp2_with fail
  go_loopw [7, 8] (fun av bv wr => av = .int .i64 0 ∧ bv = .int .i64 20 ∧ w = wr) (fun _ _ _ => 0)
  case atStart => exact ⟨rfl, rfl, rfl⟩
  case round =>
    obtain ⟨rfl, rfl, rfl⟩ := hrel
    go_wp2_with fail
    refine h.mono ?_
    rintro e w1 ⟨rfl, hR⟩
    have HR := hide hR
    clear hR h
    go_wp2_with fail
    go_loopw [6] (fun bv wr => bv = .int .i64 20 ∧ w1 = wr) (fun _ _ => 0)
    case atStart => exact ⟨rfl, rfl⟩
    case round =>
      obtain ⟨rfl, rfl⟩ := hrel
      go_wp2_with fail
      go_end0
      exact ⟨rfl, HR.out⟩
theorem c_SortStable {R : World → Prop} (A : Option Addr) (n c : Nat) (f : Value) (w : World) (h : Calls Try.prog 34 #[.slice A n c, .int .i64 (n : Int), f] w fun e w' => e = .returned (.tuple #[]) ∧ R w') :
    Calls Try.prog 20 #[.slice A n c, f] w fun e w' => e = .returned (.tuple #[]) ∧ R w' := by
  go_enter Try.func20, Try.ntmps20
  go_wp2_with fail
  refine h.mono ?_
  rintro e w1 ⟨rfl, hR⟩
  have HR := hide hR
  clear hR h
  go_wp2_with fail
  go_end0
  exact ⟨rfl, HR.out⟩
section
variable {α : Type} [Inhabited α] {enc : α → Value} {w : World} {g m : Nat} {os : Array Obj} {cur : Array Value} {e : TypeId}
theorem sw_grown (d : Array α) : w.grownBy (sortWorld enc w g 0 m d os) (some g) := by
  unfold sortWorld
  refine ⟨rfl, rfl, rfl, by simp, fun k hk hne => ?_⟩
  rw [heap_grow_old _ _ (by simpa using hk)]
  have : g ≠ k := fun e => hne (by rw [e])
  simp [putRow, mapBlock, Sort.ahead, Array.getElem?_modify, this]
theorem sw_heap (d : Array α) (hb : w.heap[g]? = some (.cells cur e (0, 0))) : (sortWorld enc w g 0 m d os).heap[g]? = some (.cells (putCells enc 0 d cur) e (0, 0)) := by
  have hg : g < w.heap.size := (Array.getElem?_eq_some_iff.1 hb).1
  unfold sortWorld
  rw [heap_grow_old _ _ (by simpa using hg)]
  simp [putRow, mapBlock, Sort.ahead, Array.getElem?_modify, hb, onCells]
theorem sw_take (ts : List α) (h : ts.length ≤ cur.size) : (putCells enc 0 ts.toArray cur).toList.take ts.length = ts.map enc := by
  apply List.ext_getElem?
  intro j
  by_cases hj : j < ts.length
  · rw [List.getElem?_take_of_lt hj, Array.getElem?_toList]
    simp [putCells, hj, show j < cur.size by omega]
  · rw [List.getElem?_take_eq_none (by omega), List.getElem?_eq_none (by simp; omega)]
theorem sw_holds {ss : List α} (hb : w.heap[g]? = some (.cells cur e (0, 0))) (ht : cur.toList.take ss.length = ss.map enc) : Holds enc w g 0 ss.toArray := by
  intro j hj
  have hj' : j < ss.length := by simpa using hj
  refine ⟨?_, by simp [World.frozen?, hb]⟩
  have h1 : (cur.toList.take ss.length)[j]? = (ss.map enc)[j]? := by rw [ht]
  rw [List.getElem?_take_of_lt hj'] at h1
  simp only [World.cell?, hb, Nat.zero_add]
  simp only [Option.isSome_none, Bool.false_eq_true, if_false]
  rw [← Array.getElem?_toList, h1]
  simp [hj']
end
theorem lt_of_compare (a b : Int) : decide (Lib.compareInt a b < 0) = decide (a < b) := by
  unfold Lib.compareInt
  by_cases h1 : a < b
  · simp [h1]
  · rw [if_neg h1]
    by_cases h2 : a > b
    · rw [if_pos h2]; simp [h1]
    · rw [if_neg h2]; simp [h1]
theorem c_sortEnds (w0 : World) (bx : Nat) (A0 : Option Addr) (m c0 : Nat) (xs : List OfferD) (A : Option Addr) (c : Nat) (zs : List Int) (base : Nat) (w : World) (hmm : m = xs.length) (hO : Own intC 1 2 w base (.slice A zs.length c) zs) (hx : IsX w0 w) (hb : w0.heap.size ≤ base)
    (hbx : bx < w0.heap.size) (hbox : w0.cell? ⟨bx, 0, none⟩ = some (.slice A0 m c0)) (hA0 : Rd OfferD.cells 5 w0 A0 xs) (hm : ∀ z ∈ zs, 0 ≤ z ∧ z < (xs.length : Int)) (hn : zs.length < 20) (hv : offersB xs = true) :
    Calls Try.prog 20 #[.slice A zs.length c, .func (.func 21) #[] #[.pointer (some ⟨bx, 0, none⟩)]] w fun e w' => e = .returned (.tuple #[]) ∧ w'.ownsRow base 2 1 (.slice A zs.length c) zs.length ((orderP xs zs).flatMap intC) ∧ IsX w0 w' := by
  refine c_SortStable (R := fun w' => w'.ownsRow base 2 1 (.slice A zs.length c) zs.length ((orderP xs zs).flatMap intC) ∧ IsX w0 w') A zs.length c _ w (c_stable _ _ _ w hn ?_)
  rcases Nat.eq_zero_or_pos zs.length with hz | hz
  · have hz' := List.eq_nil_of_length_eq_zero hz
    subst hz'
    refine (c_insC0 A c _ w).mono ?_
    rintro e w1 ⟨rfl, rfl⟩
    exact ⟨rfl, hO, hx⟩
  · rcases hO.2 with ⟨_, h0⟩ | ⟨g, cap, cur, hv, hg, hh, h1, h2, h3, h4⟩
    · omega
    · injection hv with hA _ hc
      subst hA
      subst hc
      have hN : 0 < xs.length := by
        obtain ⟨z1, z2⟩ := hm _ (List.getElem_mem hz)
        omega
      obtain ⟨N, hNe⟩ : ∃ N, xs.length = N + 1 := ⟨xs.length - 1, by omega⟩
      obtain ⟨fs, hfs⟩ : ∃ fs : List (Fin (N + 1)), fs = zs.map (fun z => Fin.ofNat (N + 1) z.toNat) := ⟨_, rfl⟩
      have hfl : fs.length = zs.length := by rw [hfs, List.length_map]
      have hfz : fs.map (fun i => ((i.val : Nat) : Int)) = zs := by
        rw [hfs, List.map_map]
        conv => rhs; rw [← List.map_id zs]
        apply List.map_congr_left
        intro z hz
        obtain ⟨z1, z2⟩ := hm z hz
        have : z.toNat % (N + 1) = z.toNat := Nat.mod_eq_of_lt (by omega)
        simp [Fin.ofNat, this]; omega
      have hflat : ∀ l : List (Fin (N + 1)), (l.map (fun i => ((i.val : Nat) : Int))).flatMap intC = l.map (fun i => Value.int .i64 ((i.val : Nat) : Int)) := fun l => by
        induction l with
        | nil => rfl
        | cons a l ih => simp only [List.map_cons, List.flatMap_cons, ih]; rfl
      have h4' : cur.toList.take fs.length = fs.map (fun i => Value.int .i64 ((i.val : Nat) : Int)) := by
        rw [← hflat, hfz, hfl, ← h4, Nat.mul_one]
      have hord : (orderR (fun a b => ltE xs ((a.val : Nat) : Int) ((b.val : Nat) : Int)) fs).map (fun i : Fin (N + 1) => ((i.val : Nat) : Int)) = orderP xs zs := by
        have := orderR_map (fun i : Fin (N + 1) => ((i.val : Nat) : Int)) (ltE xs) fs
        rw [hfz] at this
        exact this.symm
      have hglt : g < w.heap.size := (Array.getElem?_eq_some_iff.1 hh).1
      haveI : Inhabited (Fin (N + 1)) := ⟨⟨0, by omega⟩⟩
      have hcf : ∀ (x y : Fin (N + 1)), Lib.compareInt (endAt xs ((x.val : Nat) : Int)) (endAt xs ((y.val : Nat) : Int)) = Lib.compareInt ((xs[x.val]'(by omega)).Start + (xs[x.val]'(by omega)).Length) ((xs[y.val]'(by omega)).Start + (xs[y.val]'(by omega)).Length) := fun x y => by
        rw [endAt_at (show x.val < xs.length by omega), endAt_at (show y.val < xs.length by omega)]
      have hlt : ltOf (fun (x y : Fin (N + 1)) => Lib.compareInt (endAt xs ((x.val : Nat) : Int)) (endAt xs ((y.val : Nat) : Int))) = fun a b => ltE xs ((a.val : Nat) : Int) ((b.val : Nat) : Int) := by
        funext x y
        simp only [ltOf, ltE]
        exact lt_of_compare _ _
      have hsz : fs.toArray.size = zs.length := by simp [hfl]
      have key := Try.insertionSortCmpFunc_one (fun i : Fin (N + 1) => Value.int .i64 ((i.val : Nat) : Int)) (fun _ => rfl) (fun x y => Lib.compareInt (endAt xs ((x.val : Nat) : Int)) (endAt xs ((y.val : Nat) : Int))) 21 #[.pointer (some ⟨bx, 0, none⟩)] g 0 c 0 zs.length fs.toArray w
        (enters_of Try.func21 (by kernel_rfl) rfl) (fun k os dk hdk x y => by
          have hxx : IsX w0 (sortWorld (fun i : Fin (N + 1) => Value.int .i64 ((i.val : Nat) : Int)) w g 0 k dk os) := hx.grown (row := some g) (sw_grown dk) (by intro z hz; injection hz with hz; omega)
          have := c_greedy1 bx A0 m c0 xs x.val y.val _ hmm hv (by omega) (by omega) (Nat.lt_of_lt_of_le hbx hxx.size) (keep hxx hbx hbox) (hA0.x hxx)
          rw [← hcf] at this
          exact this)
        (sw_holds hh h4') (Nat.zero_le _) (by rw [hsz]; exact Nat.le_refl _) (by rw [hsz]; omega)
      rw [hsz] at key
      refine key.mono ?_
      rintro e w1 ⟨rfl, k, rfl⟩
      have hsl := sort_list (fun (a b : Fin (N + 1)) => ltE xs ((a.val : Nat) : Int) ((b.val : Nat) : Int)) fs
      rw [hlt, ← hfl, hsl, ← sortWorld_none]
      refine ⟨rfl, ⟨?_, .inr ⟨g, c, _, rfl, hg, sw_heap _ hh, by omega, h2, ?_, ?_⟩⟩, ?_⟩
      · rw [flat_len intC_len, orderP_len, hfl]
      · simp [putCells, h3]
      · rw [Nat.mul_one, ← orderR_len (fun (a b : Fin (N + 1)) => ltE xs ((a.val : Nat) : Int) ((b.val : Nat) : Int)) fs, sw_take _ (by rw [orderR_len, hfl]; omega), ← hord, hflat]
      · exact hx.grown (row := some g) (sw_grown _) (by intro z hz; injection hz with hz; omega)

theorem one_readsD (V : World) (t : Nat) (u : Int) : Reads (V.alloc (.cells #[.int .i64 u] t)).drew (V.alloc (.cells #[.int .i64 u] t)).drew.heap.size 1 (some ⟨V.heap.size, 0, none⟩) 1 [.int .i64 u] :=
  Rd.reads (cells := intC) (xs := [u]) (by omega) intC_len (Blk.rd (cells := intC) (xs := [u]) (t := t) intC_len ((Blk.new V t #[.int .i64 u]).x (IsX.drew (IsX.refl _))))
theorem idx_len (n : Nat) : (idx n).length = n := by simp [idx]
theorem idx_of {cur : List Int} {n : Nat} (h : cur.length = n) (hc : ∀ i, i < n → cur[i]? = some ((i : Nat) : Int)) : cur = idx n := by
  apply List.ext_getElem?
  intro i
  by_cases hi : i < n
  · rw [hc i hi]; simp [idx, hi]
  · rw [List.getElem?_eq_none (by omega), List.getElem?_eq_none (by rw [idx_len]; omega)]
theorem set_step {cur : List Int} {n k : Nat} (h : cur.length = n ∧ ∀ i, i < k → cur[i]? = some ((i : Nat) : Int)) (hk : k < n) : (cur.set k (k : Int)).length = n ∧ ∀ i, i < k + 1 → (cur.set k (k : Int))[i]? = some ((i : Nat) : Int) := by
  refine ⟨by simpa using h.1, fun i hi => ?_⟩
  rw [List.getElem?_set]
  by_cases e : k = i
  · subst e; rw [if_pos rfl, if_pos (by omega)]
  · rw [if_neg e]; exact h.2 i (by omega)
theorem ends_succ (xs : List OfferD) (q : Nat) : (idx (q + 1)).map (endAt xs) = (idx q).map (endAt xs) ++ [endAt xs (q : Int)] := by rw [idx_succ, List.map_append]; rfl

set_option maxRecDepth 100000 in
set_option maxHeartbeats 6400000 in
theorem i_GreedyDay (A0 : Option Addr) (c0 : Nat) (xs0 : List OfferD) (n1 : Int) (w : World) (hn0 : xs0.length ≤ 1099511627776) (hw0 : ∀ x ∈ xs0, x.wf) (hA0 : Rd OfferD.cells 5 w A0 xs0) (hb1 : intWf n1) : Calls Try.prog 7 #[.slice A0 xs0.length c0, .int .i64 n1] w (SlPost intC 1 2 w (greedyZ xs0 n1) (greedyC xs0 n1)) := by
  cases hv : offersB xs0
  · have HB := hide (greedy_bad (ch := n1) hv)
    go_enter Try.func7, Try.ntmps7
    go_wp2_with fail
    obtain ⟨W1, hW1⟩ : ∃ W1, W1 = w.alloc (.cells #[.slice A0 xs0.length c0] 24) := ⟨_, rfl⟩
    have hx0 : IsX w W1 := hW1 ▸ (IsX.refl w).alloc _
    have hBx : Blk W1 w.heap.size 24 #[.slice A0 xs0.length c0] := hW1 ▸ Blk.new w _ _
    rw [← hW1]
    have k0 := hBx.cell 0
    simp at k0
    have hbx := hBx.lt
    clear hW1 hBx
    refine (cb (c_ValidOffers A0 c0 xs0 W1 hn0 hw0 (hA0.x hx0)) hv).mono ?_
    rintro e w1 ⟨rfl, hx1⟩
    have hx := hx0.trans hx1
    replace k0 := keep hx1 hbx k0
    replace hbx := Nat.lt_of_lt_of_le hbx hx1.size
    clear hx0 hx1
    go_wp2_with fail
    go_ret2
    exact SlPost.none HB.out.1 (by rw [HB.out.2]; rfl) hx
  cases hi : inB n1 0 240
  · have HB := hide (greedy_range hv hi)
    go_enter Try.func7, Try.ntmps7
    go_wp2_with fail
    obtain ⟨W1, hW1⟩ : ∃ W1, W1 = w.alloc (.cells #[.slice A0 xs0.length c0] 24) := ⟨_, rfl⟩
    have hx0 : IsX w W1 := hW1 ▸ (IsX.refl w).alloc _
    have hBx : Blk W1 w.heap.size 24 #[.slice A0 xs0.length c0] := hW1 ▸ Blk.new w _ _
    rw [← hW1]
    have k0 := hBx.cell 0
    simp at k0
    have hbx := hBx.lt
    clear hW1 hBx
    refine (cb (c_ValidOffers A0 c0 xs0 W1 hn0 hw0 (hA0.x hx0)) hv).mono ?_
    rintro e w1 ⟨rfl, hx1⟩
    have hx := hx0.trans hx1
    replace k0 := keep hx1 hbx k0
    replace hbx := Nat.lt_of_lt_of_le hbx hx1.size
    clear hx0 hx1
    go_wp2_with fail
    refine (cb (c_isChange n1 _) hi).mono ?_
    rintro e wu ⟨rfl, rfl⟩
    go_wp2_with fail
    go_ret2
    exact SlPost.none HB.out.1 (by rw [HB.out.2]; rfl) hx
  have HB := hide (greedy_ok hv hi)
  have hch := inB_true.1 hi
  go_enter Try.func7, Try.ntmps7
  go_wp2_with fail
  obtain ⟨W1, hW1⟩ : ∃ W1, W1 = w.alloc (.cells #[.slice A0 xs0.length c0] 24) := ⟨_, rfl⟩
  have hx0 : IsX w W1 := hW1 ▸ (IsX.refl w).alloc _
  have hBx : Blk W1 w.heap.size 24 #[.slice A0 xs0.length c0] := hW1 ▸ Blk.new w _ _
  rw [← hW1]
  have k0 := hBx.cell 0
  simp at k0
  have hbx := hBx.lt
  clear hW1 hBx
  refine (cb (c_ValidOffers A0 c0 xs0 W1 hn0 hw0 (hA0.x hx0)) hv).mono ?_
  rintro e w1 ⟨rfl, hx1⟩
  have hx := hx0.trans hx1
  replace k0 := keep hx1 hbx k0
  replace hbx := Nat.lt_of_lt_of_le hbx hx1.size
  clear hx0 hx1
  go_wp2_with fail
  refine (cb (c_isChange n1 _) hi).mono ?_
  rintro e wu ⟨rfl, rfl⟩
  clear hi
  have HV := hide hv
  have HC := hide hch
  have HA0 := hide hA0
  have hn16 := offers_len hv
  obtain ⟨n, hnn⟩ : ∃ n, n = xs0.length := ⟨_, rfl⟩
  have HN := hide hnn
  rw [← hnn] at hn16
  rw [← hnn]
  rw [← hnn] at k0
  have HI := hide (info_parts Int64_info)
  have HX := hide hx
  have hmk := make_ints n (by omega)
  clear hnn hv hA0 hw0 hn0 hx hch
  go_wp2_with fail
  obtain ⟨W2, hW2⟩ : ∃ W2, W2 = w1.alloc (.cells (intArr (List.replicate n 0)) 2) := ⟨_, rfl⟩
  have hx2 : IsX w1 W2 := hW2 ▸ (IsX.refl w1).alloc _
  have HB2 : Hid (Blk W2 w1.heap.size 2 (intArr (List.replicate n 0))) := hide (hW2 ▸ Blk.new w1 _ _)
  rw [← hW2]
  obtain ⟨g, hg⟩ : ∃ g, g = w1.heap.size := ⟨_, rfl⟩
  have HK0 := hide k0
  have HXX := hide hx2
  have hbw : w.heap.size ≤ g := by have := HX.out.size; omega
  have hbg : w.heap.size < g := by omega
  rw [← hg] at HB2 ⊢
  have HGE := hide (Nat.le_of_eq hg)
  have HGE2 := hide (Nat.le_of_eq hg.symm)
  clear hW2 hmk hx2 k0 hg
  go_loopw [22] (fun iv wr => ∃ (k : Nat) (cur : List Int), k ≤ n ∧ iv = .int .i64 k ∧ Hid (cur.length = n ∧ ∀ i, i < k → cur[i]? = some ((i : Nat) : Int)) ∧ Hid (Blk wr g 2 (intArr cur)) ∧ Hid (IsX w1 wr)) (fun iv _ => n - (intOf iv).toNat)
  case atStart => exact ⟨0, List.replicate n 0, Nat.zero_le _, rfl, hide ⟨by simp, fun i hi => absurd hi (by omega)⟩, HB2, HXX⟩
  case round =>
    clear HB2 HXX
    obtain ⟨k, cur, hk, rfl, HCU, HBK, HXR⟩ := hrel
    by_cases hlt : k < n
    · have hbl := HBK.out.lt
      have hcs : k < (intArr cur).size := by rw [intArr_len]; have := HCU.out.1; omega
      obtain ⟨cv, hcv⟩ := HBK.out.has hcs
      have hfz := HBK.out.frozen k
      have HBN := hide (blk_set (j := k) HBK.out (k : Int))
      have HSS := hide (set_step HCU.out hlt)
      have HXS := hide (HXR.out.setCell (a := ⟨g, k, none⟩) HGE2.out (.int .i64 (k : Int)))
      go_wp2_with fail
      go_roundw
      case rel => exact ⟨k + 1, cur.set k (k : Int), by omega, by go_num, HSS, HBN, HXS⟩
      case measure => simp [intOf]; omega
    · obtain rfl : k = n := by omega
      have HID := hide (idx_of HCU.out.1 HCU.out.2)
      rw [HID.out] at HBK
      have HW : Hid (IsX w wr) := hide (HX.out.trans HXR.out)
      have HK1 := hide (keep HXR.out hbx HK0.out)
      have hbx2 := Nat.lt_of_lt_of_le hbx HXR.out.size
      have hso := c_sortEnds w1 w.heap.size A0 k c0 xs0 (some ⟨g, 0, none⟩) k (idx k) w1.heap.size wr HN.out (by
        have := HBK.out.own' (base := w1.heap.size) (t := 2) intC_len HGE2.out (by rw [idx_len]; simp only [maxLen]; omega)
        rw [idx_len] at this ⊢
        exact this) HXR.out (Nat.le_refl _) hbx HK0.out (HA0.out.x HX.out) (fun z hz => by obtain ⟨j, hj, rfl⟩ := idx_mem.1 hz; have := HN.out; omega) (by rw [idx_len]; omega) HV.out
      rw [idx_len] at hso
      have HSO := hide hso
      clear hso
      go_wp2_with fail
      refine HSO.out.mono ?_
      rintro e W7 ⟨rfl, hO7, hx7⟩
      have HOE := hide (show orderP xs0 (idx k) = orderE xs0 by rw [orderP, orderE, HN.out])
      rw [HOE.out] at hO7
      have HRD : Hid (Rd intC 1 W7 (some ⟨g, 0, none⟩) (orderE xs0)) := hide (Rd.of_own (by omega) intC_len hO7)
      have HX7 := hide (HX.out.trans hx7)
      have k7 := keep hx7 hbx HK0.out
      have hbx7 := Nat.lt_of_lt_of_le hbx hx7.size
      have hw7 := HX7.out.size
      clear hO7 hx7 HSO
      go_wp2_with fail
      have HO8 : Hid (W7.ownsRow W7.heap.size 2 1 (.slice none 0 0) 0 []) := hide (World.ownsRow_nil _ _ _ _)
      go_loopw [8, 35] (fun ov iv wr => ∃ (q : Nat) (F : List Int), q ≤ k ∧ iv = .int .i64 q ∧ (∃ A c, ov = .slice A F.length c) ∧ Hid (F = gI xs0 n1 q) ∧ F.length ≤ q ∧ Hid (wr.ownsRow W7.heap.size 2 1 ov F.length (F.flatMap intC)) ∧ IsX W7 wr) (fun _ iv _ => k - (intOf iv).toNat)
      case atStart => exact ⟨0, [], Nat.zero_le _, rfl, ⟨_, _, rfl⟩, hide rfl, Nat.zero_le _, HO8, IsX.refl W7⟩
      case round =>
        clear HO8
        obtain ⟨q, F, hq, rfl, ⟨Ao, co, rfl⟩, HF, hFq, HO, p2, rfl⟩ := hrel
        by_cases hqk : q < k
        · have hqx : q < (orderE xs0).length := by rw [orderE_len]; have := HN.out; omega
          obtain ⟨j, hjx, hoj⟩ := orderE_mem (List.getElem_mem hqx)
          obtain ⟨b7, off7, e7, hb7, ck'⟩ := int_rd HRD.out (show (orderE xs0)[q]? = some (orderE xs0)[q] from List.getElem?_eq_getElem _)
          injection e7 with e7
          injection e7 with e7 e8
          subst e7 e8
          simp only [Nat.zero_add] at ck'
          rw [hoj] at ck'
          have HSU := hide (show gI xs0 n1 (q + 1) = stepI xs0 n1 F (j : Int) by rw [gI_succ hqx, hoj, HF.out])
          have HIN := hide (show ∀ t ∈ F, 0 ≤ t ∧ t < (xs0.length : Int) from fun t ht => gI_in (ch := n1) (k := q) (by omega) t (HF.out ▸ ht))
          have HFR : Hid (Rd intC 1 (xt W7 p2) Ao F) := hide (Rd.of_own (by omega) intC_len HO.out)
          have hjk : j < k := by have := HN.out; omega
          have hca := c_conflictsAny A0 c0 xs0 Ao co F j n1 (xt W7 p2) HV.out HC.out hjx HIN.out (by omega) (HA0.out.x (HX7.out.trans ⟨p2, rfl⟩)) HFR.out
          rw [← HN.out] at hca
          have HCA := hide hca
          clear hoj hca
          cases hany : F.any (clashAt xs0 n1 j)
          · have HST := hide (show stepI xs0 n1 F (j : Int) = F ++ [(j : Int)] by simp only [stepI, Int.toNat_natCast, hany]; simp)
            go_wp2_with fail
            refine (cb HCA.out hany).mono ?_
            rintro e w5 ⟨rfl, hx5⟩
            replace HO := hide (own_x HO.out hx5)
            obtain ⟨p5, rfl⟩ := IsX.trans ⟨p2, rfl⟩ hx5
            clear hx5 HCA
            go_wp2_with (at_builtin; obtain ⟨i0, hi0, hz0, hz1, hz2⟩ := HI.out; refine wpList_append_any _ rfl (.tmp 45) (.tmp 47) _ rfl W7.heap.size 2 i0 _ 1 8 Try.underlying27 hi0 hz0 hz1 hz2 rfl (by omega) _ F.length (F.flatMap intC) rfl (HO.out.alloc _) _ (some ⟨(xt W7 p5).heap.size, 0, none⟩) 1 1 [.int .i64 (j : Int)] rfl (one_reads' (xt W7 p5) 2 (j : Int)) (one_one' (j : Int)) (by simp only [maxLen]; omega) (by omega) (by have := size_xt W7 p5; simp; omega) ?_; clear hi0 hz0 hz1 hz2; intro v1 w1 hown1 hg1 hat1; have HO1 := hide hown1; have hx1 : IsX W7 w1 := IsX.grown (IsX.alloc (w' := xt W7 p5) ⟨p5, rfl⟩ _) hg1 (by intro z hz; exact (HO.out.lt z hz).1); clear hown1 hg1 hat1; obtain ⟨p1, rfl⟩ := hx1)
            go_roundw
            case rel => exact ⟨q + 1, F ++ [(j : Int)], by omega, by go_num, (by obtain ⟨A', c', h⟩ := row_slice HO1.out; exact ⟨A', c', by rw [h]; simp⟩), hide (by rw [HSU.out, HST.out]), by simp; omega, hide (by rw [List.length_append, List.flatMap_append]; exact HO1.out), ⟨p1, rfl⟩⟩
            case measure => simp [intOf]; omega
          · have HST := hide (show stepI xs0 n1 F (j : Int) = F by simp only [stepI, Int.toNat_natCast, hany]; simp)
            go_wp2_with fail
            refine (cb HCA.out hany).mono ?_
            rintro e w5 ⟨rfl, hx5⟩
            replace HO := hide (own_x HO.out hx5)
            obtain ⟨p5, rfl⟩ := IsX.trans ⟨p2, rfl⟩ hx5
            clear hx5 HCA
            go_wp2_with fail
            go_roundw
            case rel => exact ⟨q + 1, F, by omega, by go_num, ⟨_, _, rfl⟩, hide (by rw [HSU.out, HST.out]), by omega, HO, ⟨p5, rfl⟩⟩
            case measure => simp [intOf]; omega
        · obtain rfl : q = k := by omega
          have HSRT := hide (show sortI F = greedyZ xs0 n1 by rw [HB.out.1, HF.out, ← g_sort, ← HN.out])
          go_wp2_with fail
          refine (c_Sort W7 Ao co F W7.heap.size (xt W7 p2) HO.out ⟨p2, rfl⟩ (Nat.le_refl _) (by omega)).mono ?_
          rintro e w9 ⟨rfl, hO9, hx9⟩
          have HO9 := hide hO9
          have HX9 := hide hx9
          have HLEN := hide (sortI_len F)
          clear hO9 hx9
          go_wp2_with fail
          go_ret2
          refine ⟨Ao, co, by rw [← HSRT.out, HB.out.2, HLEN.out]; rfl, ?_, HX7.out.trans HX9.out⟩
          rw [← HSRT.out]
          exact HO9.out.mono hw7

end Go.Proofs.Ytdedaoafihomoaa
