/- Offers by their starts: the reference's list and the program's stable sort. Conditions: lists no longer than 2^20; the program's: fewer than 20 chosen. -/
import Derived.Test.YtmipphgekcdaoaaGreatDoorOrderFns
import Derived.Test.YtmipphgekcdaoaaGreatDoorSortLaid
import Derived.Sort.OwnSortedInts
import Derived.Deep.QuietTactic
namespace Go.Proofs.YtmipphgekcdaoaaGreatDoor
set_option linter.unusedVariables false
open Go.RowKit Go.Sort

def startZ (xs : List OfferD) (ps : List Int) : List Int := orderR (ltS xs) ps
def atP (ps : List Int) (o : Int) : Int := ps.getD o.toNat 0
theorem atP_at {ps : List Int} {i : Nat} (h : i < ps.length) : atP ps (i : Int) = ps[i] := by simp [atP, h]
theorem idx_map (ps : List Int) : (idx ps.length).map (atP ps) = ps := by
  apply List.ext_getElem
  · simp [idx]
  · intro i h1 h2
    simp [idx, atP, h2]
theorem startZ_map (xs : List OfferD) (ps : List Int) : (orderR (fun a b => ltS xs (atP ps a) (atP ps b)) (idx ps.length)).map (atP ps) = startZ xs ps := by
  have h := orderR_map (atP ps) (ltS xs) (idx ps.length)
  rw [idx_map] at h
  exact h.symm
theorem startAt_at {xs : List OfferD} {p : Int} {j : Nat} (e : p = (j : Int)) (h : j < xs.length) : startAt xs p = xs[j].Start := by
  subst e
  simp [startAt, List.getElem?_eq_getElem h]
theorem startZ_mem {xs : List OfferD} {ps : List Int} {p : Int} : p ∈ startZ xs ps ↔ p ∈ ps := orderR_mem
theorem startZ_len (xs : List OfferD) (ps : List Int) : (startZ xs ps).length = ps.length := orderR_len _ _
theorem map_succ {f : Int → Int} {ps : List Int} {q : Nat} (h : q < ps.length) : (ps.take (q + 1)).map f = (ps.take q).map f ++ [f ps[q]] := by
  rw [List.take_succ_eq_append_getElem h, List.map_append]; rfl

theorem c_cnan (a : Int) (w : World) : Calls Tryz.prog 53 #[.int .i64 a] w fun e w' => e = .returned (.bool false) ∧ w = w' := by
  go_enter Tryz.func53, Tryz.ntmps53
  go_wp2
  go_ret
  exact ⟨by simp, rfl⟩
theorem c_Compare (a b : Int) (w : World) : Calls Tryz.prog 42 #[.int .i64 a, .int .i64 b] w fun e w' => e = .returned (.int .i64 (Lib.compareInt a b)) ∧ w' = w := by
  have hr : Lib.compareInt a b = if a < b then -1 else if b < a then 1 else 0 := rfl
  have HR := hide hr
  clear hr
  by_cases h1 : a < b
  · rw [if_pos h1] at HR
    go_enter Tryz.func42, Tryz.ntmps42
    go_wp2_with fail
    refine (c_cnan a w).mono ?_
    rintro e w1 ⟨rfl, rfl⟩
    go_wp2_with fail
    refine (c_cnan b w).mono ?_
    rintro e w1 ⟨rfl, rfl⟩
    go_wp2_with fail
    go_ret
    exact ⟨by rw [HR.out]; rfl, rfl⟩
  · rw [if_neg h1] at HR
    by_cases h2 : b < a
    · rw [if_pos h2] at HR
      go_enter Tryz.func42, Tryz.ntmps42
      go_wp2_with fail
      refine (c_cnan a w).mono ?_
      rintro e w1 ⟨rfl, rfl⟩
      go_wp2_with fail
      refine (c_cnan b w).mono ?_
      rintro e w1 ⟨rfl, rfl⟩
      go_wp2_with fail
      go_ret
      exact ⟨by rw [HR.out]; rfl, rfl⟩
    · rw [if_neg h2] at HR
      go_enter Tryz.func42, Tryz.ntmps42
      go_wp2_with fail
      refine (c_cnan a w).mono ?_
      rintro e w1 ⟨rfl, rfl⟩
      go_wp2_with fail
      refine (c_cnan b w).mono ?_
      rintro e w1 ⟨rfl, rfl⟩
      go_wp2_with fail
      go_ret
      exact ⟨by rw [HR.out]; rfl, rfl⟩
set_option maxHeartbeats 1600000 in
theorem c_byStart1 (bx : Nat) (A : Option Addr) (m c : Nat) (xs : List OfferD) (x y : Nat) (W : World) (hm : m = xs.length) (hx : x < xs.length) (hy : y < xs.length) (hbx : bx < W.heap.size) (hbox : W.cell? ⟨bx, 0, none⟩ = some (.slice A m c)) (hA : Rd OfferD.cells 5 W A xs) :
    Calls Tryz.prog 41 #[.int .i64 (x : Int), .int .i64 (y : Int), .pointer (some ⟨bx, 0, none⟩)] W fun e w' => e = .returned (.int .i64 (Lib.compareInt xs[x].Start xs[y].Start)) ∧ ∃ q, w' = W.drewN q := by
  obtain ⟨b, off, e0, hb, d0, d1, d2, d3, d4⟩ := OfferD.rd hA (show xs[x]? = some xs[x] from List.getElem?_eq_getElem _)
  obtain ⟨b', off', e1, hb', k0, k1, k2, k3, k4⟩ := OfferD.rd hA (show xs[y]? = some xs[y] from List.getElem?_eq_getElem _)
  rw [e0] at e1
  injection e1 with e1
  injection e1 with e1 e2
  subst e1 e2 e0
  have hxm : x < m := by omega
  have hym : y < m := by omega
  clear hA d0 d1 d3 d4 k0 k1 k3 k4 hm
  obtain ⟨sx, hsx⟩ : ∃ s, s = xs[x].Start := ⟨_, rfl⟩
  obtain ⟨sy, hsy⟩ : ∃ s, s = xs[y].Start := ⟨_, rfl⟩
  rw [← hsx] at d2
  rw [← hsy] at k2
  rw [← hsx, ← hsy]
  clear hsx hsy
  go_enter Tryz.func41, Tryz.ntmps41
  go_wp2_with fail
  go_quiet ((go_at_call 42; refine Calls.quiet_of_same (c_Compare _ _ _)))
  go_wp2_with fail
  go_ret
  exact ⟨rfl, nq, rfl⟩
theorem c_insC0 (A : Option Addr) (c : Nat) (f : Value) (w : World) : Calls Tryz.prog 64 #[.slice A 0 c, .int .i64 0, .int .i64 ((0 : Nat) : Int), f] w fun e w' => e = .returned (.tuple #[]) ∧ w = w' := by
  rw [show (((0 : Nat) : Int)) = 0 from rfl]
  go_enter Tryz.func64, Tryz.ntmps64
  go_wp2_with fail
  go_loopw [8] (fun iv wr => iv = .int .i64 1 ∧ w = wr) (fun _ _ => 0)
  case atStart => exact ⟨rfl, rfl⟩
  case round =>
    obtain ⟨rfl, rfl⟩ := hrel
    go_wp2_with fail
    go_end0
    exact ⟨rfl, rfl⟩
theorem c_stable {R : World → Prop} (s f : Value) (n : Nat) (w : World) (hn : n < 20) (h : Calls Tryz.prog 64 #[s, .int .i64 0, .int .i64 (n : Int), f] w fun e w' => e = .returned (.tuple #[]) ∧ R w') :
    Calls Tryz.prog 52 #[s, .int .i64 (n : Int), f] w fun e w' => e = .returned (.tuple #[]) ∧ R w' := by
  go_enter Tryz.func52, Tryz.ntmps52
  go_wp2_with fail
  go_loopw [7, 8] (fun av bv wr => av = .int .i64 0 ∧ bv = .int .i64 20 ∧ w = wr) (fun _ _ _ => 0)
  case atStart => exact ⟨rfl, rfl, rfl⟩
  case round =>
    obtain ⟨rfl, rfl, rfl⟩ := hrel
    go_wp2_with fail
    refine h.mono ?_
    rintro e w1 ⟨rfl, hR⟩
    have HR := hide hR
    clear hR h
    go_wp2_with fail
    go_loopw [6] (fun bv wr => bv = .int .i64 20 ∧ w1 = wr) (fun _ _ => 0)
    case atStart => exact ⟨rfl, rfl⟩
    case round =>
      obtain ⟨rfl, rfl⟩ := hrel
      go_wp2_with fail
      go_end0
      exact ⟨rfl, HR.out⟩
theorem c_SortStable {R : World → Prop} (A : Option Addr) (n c : Nat) (f : Value) (w : World) (h : Calls Tryz.prog 52 #[.slice A n c, .int .i64 (n : Int), f] w fun e w' => e = .returned (.tuple #[]) ∧ R w') :
    Calls Tryz.prog 40 #[.slice A n c, f] w fun e w' => e = .returned (.tuple #[]) ∧ R w' := by
  go_enter Tryz.func40, Tryz.ntmps40
  go_wp2_with fail
  refine h.mono ?_
  rintro e w1 ⟨rfl, hR⟩
  have HR := hide hR
  clear hR h
  go_wp2_with fail
  go_end0
  exact ⟨rfl, HR.out⟩
section
variable {α : Type} [Inhabited α] {enc : α → Value} {w : World} {g m : Nat} {os : Array Obj} {cur : Array Value} {e : TypeId}
theorem sw_grown (d : Array α) : w.grownBy (sortWorld enc w g 0 m d os) (some g) := by
  unfold sortWorld
  refine ⟨rfl, rfl, rfl, by simp, fun k hk hne => ?_⟩
  rw [heap_grow_old _ _ (by simpa using hk)]
  have : g ≠ k := fun e => hne (by rw [e])
  simp [putRow, mapBlock, Sort.ahead, Array.getElem?_modify, this]
theorem sw_heap (d : Array α) (hb : w.heap[g]? = some (.cells cur e (0, 0))) : (sortWorld enc w g 0 m d os).heap[g]? = some (.cells (putCells enc 0 d cur) e (0, 0)) := by
  have hg : g < w.heap.size := (Array.getElem?_eq_some_iff.1 hb).1
  unfold sortWorld
  rw [heap_grow_old _ _ (by simpa using hg)]
  simp [putRow, mapBlock, Sort.ahead, Array.getElem?_modify, hb, onCells]
theorem sw_take (ts : List α) (h : ts.length ≤ cur.size) : (putCells enc 0 ts.toArray cur).toList.take ts.length = ts.map enc := by
  apply List.ext_getElem?
  intro j
  by_cases hj : j < ts.length
  · rw [List.getElem?_take_of_lt hj, Array.getElem?_toList]
    simp [putCells, hj, show j < cur.size by omega]
  · rw [List.getElem?_take_eq_none (by omega), List.getElem?_eq_none (by simp; omega)]
theorem sw_holds {ss : List α} (hb : w.heap[g]? = some (.cells cur e (0, 0))) (ht : cur.toList.take ss.length = ss.map enc) : Holds enc w g 0 ss.toArray := by
  intro j hj
  have hj' : j < ss.length := by simpa using hj
  refine ⟨?_, by simp [World.frozen?, hb]⟩
  have h1 : (cur.toList.take ss.length)[j]? = (ss.map enc)[j]? := by rw [ht]
  rw [List.getElem?_take_of_lt hj'] at h1
  simp only [World.cell?, hb, Nat.zero_add]
  simp only [Option.isSome_none, Bool.false_eq_true, if_false]
  rw [← Array.getElem?_toList, h1]
  simp [hj']
end
theorem lt_of_compare (a b : Int) : decide (Lib.compareInt a b < 0) = decide (a < b) := by
  unfold Lib.compareInt
  by_cases h1 : a < b
  · simp [h1]
  · rw [if_neg h1]
    by_cases h2 : a > b
    · rw [if_pos h2]; simp [h1]
    · rw [if_neg h2]; simp [h1]
theorem c_sortStarts (w0 : World) (bx : Nat) (A0 : Option Addr) (m c0 : Nat) (xs : List OfferD) (A : Option Addr) (c : Nat) (zs : List Int) (base : Nat) (w : World) (hmm : m = xs.length) (hO : Own intC 1 2 w base (.slice A zs.length c) zs) (hx : IsX w0 w) (hb : w0.heap.size ≤ base)
    (hbx : bx < w0.heap.size) (hbox : w0.cell? ⟨bx, 0, none⟩ = some (.slice A0 m c0)) (hA0 : Rd OfferD.cells 5 w0 A0 xs) (hm : ∀ z ∈ zs, 0 ≤ z ∧ z < (xs.length : Int)) (hn : zs.length < 20) :
    Calls Tryz.prog 40 #[.slice A zs.length c, .func (.func 41) #[] #[.pointer (some ⟨bx, 0, none⟩)]] w fun e w' => e = .returned (.tuple #[]) ∧ w'.ownsRow base 2 1 (.slice A zs.length c) zs.length ((startZ xs zs).flatMap intC) ∧ IsX w0 w' := by
  refine c_SortStable (R := fun w' => w'.ownsRow base 2 1 (.slice A zs.length c) zs.length ((startZ xs zs).flatMap intC) ∧ IsX w0 w') A zs.length c _ w (c_stable _ _ _ w hn ?_)
  rcases Nat.eq_zero_or_pos zs.length with hz | hz
  · have hz' := List.eq_nil_of_length_eq_zero hz
    subst hz'
    refine (c_insC0 A c _ w).mono ?_
    rintro e w1 ⟨rfl, rfl⟩
    exact ⟨rfl, hO, hx⟩
  · rcases hO.2 with ⟨_, h0⟩ | ⟨g, cap, cur, hv, hg, hh, h1, h2, h3, h4⟩
    · omega
    · injection hv with hA _ hc
      subst hA
      subst hc
      have hN : 0 < xs.length := by
        obtain ⟨z1, z2⟩ := hm _ (List.getElem_mem hz)
        omega
      obtain ⟨N, hNe⟩ : ∃ N, xs.length = N + 1 := ⟨xs.length - 1, by omega⟩
      obtain ⟨fs, hfs⟩ : ∃ fs : List (Fin (N + 1)), fs = zs.map (fun z => Fin.ofNat (N + 1) z.toNat) := ⟨_, rfl⟩
      have hfl : fs.length = zs.length := by rw [hfs, List.length_map]
      have hfz : fs.map (fun i => ((i.val : Nat) : Int)) = zs := by
        rw [hfs, List.map_map]
        conv => rhs; rw [← List.map_id zs]
        apply List.map_congr_left
        intro z hz
        obtain ⟨z1, z2⟩ := hm z hz
        have : z.toNat % (N + 1) = z.toNat := Nat.mod_eq_of_lt (by omega)
        simp [Fin.ofNat, this]; omega
      have hflat : ∀ l : List (Fin (N + 1)), (l.map (fun i => ((i.val : Nat) : Int))).flatMap intC = l.map (fun i => Value.int .i64 ((i.val : Nat) : Int)) := fun l => by
        induction l with
        | nil => rfl
        | cons a l ih => simp only [List.map_cons, List.flatMap_cons, ih]; rfl
      have h4' : cur.toList.take fs.length = fs.map (fun i => Value.int .i64 ((i.val : Nat) : Int)) := by
        rw [← hflat, hfz, hfl, ← h4, Nat.mul_one]
      have hord : (orderR (fun a b => ltS xs ((a.val : Nat) : Int) ((b.val : Nat) : Int)) fs).map (fun i : Fin (N + 1) => ((i.val : Nat) : Int)) = startZ xs zs := by
        have := orderR_map (fun i : Fin (N + 1) => ((i.val : Nat) : Int)) (ltS xs) fs
        rw [hfz] at this
        exact this.symm
      have hglt : g < w.heap.size := (Array.getElem?_eq_some_iff.1 hh).1
      haveI : Inhabited (Fin (N + 1)) := ⟨⟨0, by omega⟩⟩
      have hcf : ∀ (x y : Fin (N + 1)), Lib.compareInt (startAt xs ((x.val : Nat) : Int)) (startAt xs ((y.val : Nat) : Int)) = Lib.compareInt (xs[x.val]'(by omega)).Start (xs[y.val]'(by omega)).Start := fun x y => by
        rw [startAt_at rfl (show x.val < xs.length by omega), startAt_at rfl (show y.val < xs.length by omega)]
      have hlt : ltOf (fun (x y : Fin (N + 1)) => Lib.compareInt (startAt xs ((x.val : Nat) : Int)) (startAt xs ((y.val : Nat) : Int))) = fun a b => ltS xs ((a.val : Nat) : Int) ((b.val : Nat) : Int) := by
        funext x y
        simp only [ltOf, ltS]
        exact lt_of_compare _ _
      have hsz : fs.toArray.size = zs.length := by simp [hfl]
      have key := Tryz.insertionSortCmpFunc_one (fun i : Fin (N + 1) => Value.int .i64 ((i.val : Nat) : Int)) (fun _ => rfl) (fun x y => Lib.compareInt (startAt xs ((x.val : Nat) : Int)) (startAt xs ((y.val : Nat) : Int))) 41 #[.pointer (some ⟨bx, 0, none⟩)] g 0 c 0 zs.length fs.toArray w
        (enters_of Tryz.func41 (by kernel_rfl) rfl) (fun k os dk hdk x y => by
          have hxx : IsX w0 (sortWorld (fun i : Fin (N + 1) => Value.int .i64 ((i.val : Nat) : Int)) w g 0 k dk os) := hx.grown (row := some g) (sw_grown dk) (by intro z hz; injection hz with hz; omega)
          have := c_byStart1 bx A0 m c0 xs x.val y.val _ hmm (by omega) (by omega) (Nat.lt_of_lt_of_le hbx hxx.size) (keep hxx hbx hbox) (hA0.x hxx)
          rw [← hcf] at this
          exact this)
        (sw_holds hh h4') (Nat.zero_le _) (by rw [hsz]; exact Nat.le_refl _) (by rw [hsz]; omega)
      rw [hsz] at key
      refine key.mono ?_
      rintro e w1 ⟨rfl, k, rfl⟩
      have hsl := sort_list (fun (a b : Fin (N + 1)) => ltS xs ((a.val : Nat) : Int) ((b.val : Nat) : Int)) fs
      rw [hlt, ← hfl, hsl, ← sortWorld_none]
      refine ⟨rfl, ⟨?_, .inr ⟨g, c, _, rfl, hg, sw_heap _ hh, by omega, h2, ?_, ?_⟩⟩, ?_⟩
      · rw [flat_len intC_len, startZ_len, hfl]
      · simp [putCells, h3]
      · rw [Nat.mul_one, ← orderR_len (fun (a b : Fin (N + 1)) => ltS xs ((a.val : Nat) : Int) ((b.val : Nat) : Int)) fs, sw_take _ (by rw [orderR_len, hfl]; omega), ← hord, hflat]
      · exact hx.grown (row := some g) (sw_grown _) (by intro z hz; injection hz with hz; omega)
set_option maxHeartbeats 1600000 in
theorem c_byStart (A0 : Option Addr) (c0 : Nat) (xs : List OfferD) (A1 : Option Addr) (c1 : Nat) (ps : List Int) (w : World) (hl1 : ps.length < 20) (hb : ∀ p ∈ ps, 0 ≤ p ∧ p < (xs.length : Int)) (hA0 : Rd OfferD.cells 5 w A0 xs) (hA1 : Rd intC 1 w A1 ps) :
    Calls Tryz.prog 21 #[.slice A0 xs.length c0, .slice A1 ps.length c1] w fun e w' => ∃ A c, e = .returned (.slice A ps.length c) ∧ w'.ownsRow w.heap.size 2 1 (.slice A ps.length c) ps.length ((startZ xs ps).flatMap intC) ∧ IsX w w' := by
  obtain ⟨m, hmm⟩ : ∃ m, m = xs.length := ⟨_, rfl⟩
  have HM := hide hmm
  have HB := hide hb
  have HA0 := hide hA0
  have HA1 := hide hA1
  rw [← hmm]
  clear hmm hb hA0 hA1
  go_enter Tryz.func21, Tryz.ntmps21
  go_wp2_with fail
  obtain ⟨W, hW⟩ : ∃ W, W = w.alloc (.cells #[.slice A0 m c0] 24) := ⟨_, rfl⟩
  have HX : Hid (IsX w W) := hide (hW ▸ (IsX.refl w).alloc _)
  have hB : Blk W w.heap.size 24 #[.slice A0 m c0] := hW ▸ Blk.new w _ _
  rw [← hW]
  have HBX := hide (hB.cell 0)
  have HLT := hide hB.lt
  clear hW hB
  refine (c_Clone A1 c1 ps W (by omega) (HA1.out.x HX.out)).mono ?_
  rintro e w2 ⟨A2, c2, rfl, hO, hx2⟩
  have HO := hide hO
  have HX2 := hide hx2
  clear hO hx2
  go_wp2_with fail
  refine (c_sortStarts W w.heap.size A0 m c0 xs A2 c2 ps W.heap.size w2 HM.out HO.out HX2.out (Nat.le_refl _) HLT.out HBX.out (HA0.out.x HX.out) HB.out hl1).mono ?_
  rintro e w3 ⟨rfl, hO3, hx3⟩
  have HO3 := hide hO3
  have HX3 := hide hx3
  clear hO3 hx3
  go_wp2_with fail
  go_ret
  exact ⟨A2, c2, rfl, row_le HO3.out HX.out.size, HX.out.trans HX3.out⟩

end Go.Proofs.YtmipphgekcdaoaaGreatDoor
