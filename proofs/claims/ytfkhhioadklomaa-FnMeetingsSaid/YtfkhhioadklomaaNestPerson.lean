/- Lists of Person, a struct with slices among its fields: copies, sizes, comparisons of equal data, arguments opened. Conditions: strings no longer than 2^63 - 1 bytes, lists no longer than 2^40. -/
import Derived.Test.YtfkhhioadklomaaProg
import Derived.Test.YtfkhhioadklomaaLInt64
namespace Go.Proofs.Ytfkhhioadklomaa
set_option linter.unusedVariables false
open Go.RowKit Go.ChangeShapes

structure PersonD where
  Name : ByteArray
  Days : List Int
structure PersonR where
  Name : ByteArray
  DaysA : Option Addr
  DaysC : Nat
  Days : List Int
def PersonR.data (r : PersonR) : PersonD := ⟨r.Name, r.Days⟩
def PersonR.cells (r : PersonR) : List Value := [.string r.Name, .slice r.DaysA r.Days.length r.DaysC]
theorem PersonR.cells_len (r : PersonR) : r.cells.length = 2 := rfl
def PersonD.wf (x : PersonD) : Prop := x.Name.size ≤ maxLen ∧ (x.Days.length ≤ maxLen ∧ ∀ y ∈ x.Days, intWf y)
def PersonD.small (left : Int) (x : PersonD) : Prop := ((x.Days.length : Nat) : Int) ≤ left
def PersonR.ok (lo : Nat) (w : World) (r : PersonR) : Prop := (Rd intC 1 w r.DaysA r.Days ∧ From lo r.DaysA)
theorem PersonR.ok.x {lo : Nat} {w w' : World} {r : PersonR} (h : r.ok lo w) (hx : IsX w w') : r.ok lo w' := ⟨h.1.x hx, h.2⟩
/-- A slice of Person reads as the list xs; what lies in its elements' own slices lies from block lo on. -/
def RdPerson (lo : Nat) (w : World) (A : Option Addr) (xs : List PersonD) : Prop := ∃ rs : List PersonR, rs.map PersonR.data = xs ∧ Rd PersonR.cells 2 w A rs ∧ ∀ r ∈ rs, r.ok lo w
theorem RdPerson.x {lo : Nat} {w w' : World} {A : Option Addr} {xs : List PersonD} (h : RdPerson lo w A xs) (hx : IsX w w') : RdPerson lo w' A xs := by
  obtain ⟨rs, e, hr, ho⟩ := h
  exact ⟨rs, e, hr.x hx, fun r hm => (ho r hm).x hx⟩
theorem RdPerson.rd {lo : Nat} {w : World} {A : Option Addr} {xs : List PersonD} (h : RdPerson lo w A xs) {i : Nat} {x : PersonD} (hx : xs[i]? = some x) :
    ∃ b off qDaysA qDaysC, A = some ⟨b, off, none⟩ ∧ b < w.heap.size ∧ w.cell? ⟨b, off + i * 2, none⟩ = some (.string x.Name) ∧ w.cell? ⟨b, off + i * 2 + 1, none⟩ = some (.slice qDaysA x.Days.length qDaysC) ∧ Rd intC 1 w qDaysA x.Days := by
  obtain ⟨rs, rfl, hr, ho⟩ := h
  rw [List.getElem?_map, Option.map_eq_some_iff] at hx
  obtain ⟨r, hri, rfl⟩ := hx
  obtain ⟨b, off, e, hb, hc⟩ := hr i r hri
  have hok := ho r (List.mem_of_getElem? hri)
  exact ⟨b, off, r.DaysA, r.DaysC, e, hb, hc 0 _ rfl, hc 1 _ rfl, hok.1⟩

theorem open_Person {H : Type} {enc : TypeId × Value → H} {w : World} {base : Nat} {spare : Nat → Bool} {held : Bool} (cs : List Value) (n : Nat) (y : DataW H × List MemPlace) (hl : cs.length = 2) (h : DataW.trod enc Try.prog w base spare held n 57 cs = some y) :
    ∃ r : PersonR, (r.data.wf ∧ r.ok 0 w) ∧ r.cells = cs := by
  have hf := open_fields Try.underlying57 (by kernel_rfl) (by rw [hl]; rfl) h
  obtain ⟨v0, m0, z0, e0, g0⟩ := hf 0 _ rfl
  obtain ⟨v1, m1, z1, e1, g1⟩ := hf 1 _ rfl
  obtain ⟨x0, rfl, b0⟩ := field_string Try.underlying9 g0
  obtain ⟨A1, c1, x1, q1, l1, b1, t1, r1⟩ := open_ints' g1
  simp at q1
  subst q1
  refine ⟨⟨x0, A1, c1, x1⟩, ⟨⟨b0, ⟨Nat.le_trans l1 b1, t1⟩⟩, ⟨r1, fun _ _ _ _ => Nat.zero_le _⟩⟩, ?_⟩
  apply List.ext_getElem?
  intro j
  rcases j with _ | _ | j
  · exact e0.symm
  · exact e1.symm
  · rw [List.getElem?_eq_none (by simp [PersonR.cells]), List.getElem?_eq_none (by omega)]
theorem open_PersonS {H : Type} {enc : TypeId × Value → H} {w : World} {base : Nat} {spare : Nat → Bool} {held : Bool} {fuel : Nat} {cs : List Value} {x : DataW H × List MemPlace} (h : DataW.trod enc Try.prog w base spare held fuel 22 cs = some x) :
    ∃ (A : Option Addr) (cap : Nat) (xs : List PersonD), cs = [.slice A xs.length cap] ∧ xs.length ≤ cap ∧ cap ≤ maxLen ∧ (∀ x ∈ xs, x.wf) ∧ RdPerson 0 w A xs := by
  obtain ⟨A, cap, rs, e, h1, h2, h3, h4⟩ := open_list PersonR.cells (fun r : PersonR => r.data.wf ∧ r.ok 0 w) Try.underlying22 (by kernel_rfl) (by omega) PersonR.cells_len (fun cs' m y hl h => open_Person cs' m y hl h) h
  refine ⟨A, cap, rs.map PersonR.data, by rw [List.length_map]; exact e, by rw [List.length_map]; exact h1, h2, fun x hx => ?_, rs, rfl, h4, fun r hr => (h3 r hr).2⟩
  obtain ⟨r, hr, rfl⟩ := List.mem_map.1 hx
  exact (h3 r hr).1

set_option maxHeartbeats 800000 in
theorem c_szPerson (x : PersonD) (qDaysA : Option Addr) (qDaysC : Nat) (left : Int) (w : World) (hx : x.wf) (h0 : 0 ≤ left) (h1 : left ≤ 1099511627776) (hR0 : Rd intC 1 w qDaysA x.Days) : Calls Try.prog 30 #[.agg #[.string x.Name, .slice qDaysA x.Days.length qDaysC], .int .i64 left] w (SzQ left (x.small left) w) := by
  have bs0 : x.Name.size ≤ 9223372036854775807 := by have := hx; simp only [PersonD.wf, maxLen] at this; omega
  have bl0 : x.Days.length ≤ maxLen := by have := hx; simp only [PersonD.wf] at this; omega
  have HX := hide hx
  clear hx
  go_enter Try.func30, Try.ntmps30
  by_cases hs0 : left - x.Name.size < 0
  · go_wp2_with fail
    go_ret
    exact ⟨-1, rfl, by omega, by omega, by omega, (IsX.refl _).alloc _⟩
  go_wp2_with fail
  refine (c_szInt64S qDaysA x.Days.length qDaysC (left - x.Name.size) _ bl0 (by omega) (by omega)).mono ?_
  rintro e w0 ⟨m0, rfl, a0, b0, d0, x0⟩
  by_cases hm0 : m0 < 0
  · go_wp2_with fail
    go_ret
    exact ⟨-1, rfl, by omega, by omega, by omega, IsX.trans ((IsX.refl _).alloc _) x0⟩
  go_wp2_with fail
  go_ret
  exact ⟨m0, rfl, by omega, by omega, Or.inr (by simp only [PersonD.small]; omega), IsX.trans ((IsX.refl _).alloc _) x0⟩

set_option maxHeartbeats 800000 in
theorem c_szPersonS (A : Option Addr) (c : Nat) (xs : List PersonD) (left : Int) (w : World) (hn : xs.length ≤ maxLen) (hw : ∀ x ∈ xs, x.wf) (h0 : 0 ≤ left) (h1 : left ≤ 1099511627776) (hA : RdPerson 0 w A xs) :
    Calls Try.prog 6 #[.slice A xs.length c, .int .i64 left] w (SzQ left ((xs.length : Int) ≤ left ∧ ∀ x ∈ xs, x.small left) w) := by
  obtain ⟨n, hnn⟩ : ∃ n, n = xs.length := ⟨_, rfl⟩
  have HN := hide hnn
  rw [← hnn] at hn ⊢
  clear hnn
  have HW := hide hw
  clear hw
  unfold maxLen at hn
  by_cases hl : left - n < 0
  · go_enter Try.func6, Try.ntmps6
    go_wp2
    go_ret
    exact ⟨-1, rfl, by omega, by omega, by omega, IsX.refl _⟩
  go_enter Try.func6, Try.ntmps6
  go_wp2
  go_loopw [1, 5] (fun l i wr => ∃ (k : Nat) (m : Int), k ≤ n ∧ i = .int .i64 k ∧ l = .int .i64 m ∧ 0 ≤ m ∧ m ≤ left ∧ (∀ i (h : i < xs.length), i < k → xs[i].small left) ∧ IsX w wr) (fun _ i _ => n - (intOf i).toNat)
  case atStart => exact ⟨0, left - n, Nat.zero_le _, rfl, rfl, by omega, by omega, fun i h hi => absurd hi (by omega), IsX.refl _⟩
  case round =>
    obtain ⟨k, m, hk, rfl, rfl, hm0, hm1, hall, p, rfl⟩ := hrel
    have HA := hide hall
    clear hall
    by_cases hlt : k < n
    · have hltx : k < xs.length := HN.out ▸ hlt
      obtain ⟨b, off, qDaysA, qDaysC, rfl, hb, c0, c1, r0⟩ := RdPerson.rd hA (show xs[k]? = some xs[k] from List.getElem?_eq_getElem _)
      clear hA
      go_wp2_with (go_at_call 30; refine (c_szPerson xs[k] _ _ _ _ (HW.out _ (List.getElem_mem _)) (by omega) (by omega) (r0.x ⟨p, rfl⟩)).mono ?_; rintro e w1 ⟨m1, rfl, e1, e2, e3, q, rfl⟩)
      · go_ret
        exact ⟨-1, rfl, by omega, by omega, by omega, IsX.xt ⟨p, rfl⟩ q⟩
      · have hst : ∀ i (h : i < xs.length), i < k + 1 → xs[i].small left := by
          intro i hi hik
          by_cases e : i = k
          · subst e
            rcases e3 with e3 | e3
            · omega
            · simp only [PersonD.small] at e3 ⊢; omega
          · exact HA.out i hi (by omega)
        have HS := hide hst
        clear hst
        go_roundw
        case rel => exact ⟨k + 1, m1, by omega, by go_num, rfl, by omega, by omega, HS.out, IsX.xt ⟨p, rfl⟩ q⟩
        case measure => simp [intOf]; omega
    · have hfin : ∀ x ∈ xs, x.small left := by
        intro x hx
        obtain ⟨i, hi, rfl⟩ := List.getElem_of_mem hx
        exact HA.out i hi (by have := HN.out; omega)
      have HF := hide hfin
      clear hfin
      go_wp2
      go_ret
      exact ⟨m, rfl, by omega, by omega, Or.inr ⟨by omega, HF.out⟩, ⟨p, rfl⟩⟩

set_option maxHeartbeats 800000 in
theorem c_toPerson (x : PersonD) (qDaysA : Option Addr) (qDaysC : Nat) (w : World) (hx : x.small 1099511627776) (hR0 : Rd intC 1 w qDaysA x.Days) : Calls Try.prog 38 #[.agg #[.string x.Name, .slice qDaysA x.Days.length qDaysC]] w fun e w' => ∃ gDays, e = .returned (.agg #[.string x.Name, .slice (some ⟨gDays, 0, none⟩) x.Days.length x.Days.length]) ∧ w.heap.size ≤ gDays ∧ Blk w' gDays 2 (x.Days.flatMap intC).toArray ∧ IsX w w' := by
  have bl0 : x.Days.length ≤ 1099511627776 := by have := hx; simp only [PersonD.small] at this; omega
  clear hx
  go_enter Try.func38, Try.ntmps38
  go_wp2_with fail
  obtain ⟨W, hW⟩ : ∃ W, W = ((w.alloc (.cells #[.string x.Name, .slice qDaysA x.Days.length qDaysC] 57)).alloc (.cells #[.string ByteArray.empty, .slice none 0 0] 51)).alloc (.cells #[.string x.Name, .slice none 0 0] 51) := ⟨_, rfl⟩
  first | rw [← hW] | rw [show Value.string (⟨#[]⟩ : ByteArray) = Value.string ByteArray.empty from rfl, ← hW]
  have hx0' : IsX w W := hW ▸ ((((IsX.refl w).alloc _).alloc _).alloc _)
  have hsz : W.heap.size = w.heap.size + 3 := by rw [hW]; simp
  have hO : Blk W (w.heap.size + 1 + 1) 51 #[.string x.Name, .slice none 0 0] := by
    rw [hW]; have := Blk.new ((w.alloc (.cells #[.string x.Name, .slice qDaysA x.Days.length qDaysC] 57)).alloc (.cells #[.string ByteArray.empty, .slice none 0 0] 51)) 51 #[.string x.Name, .slice none 0 0]; simpa using this
  have hP : Blk W (w.heap.size + 1) 51 #[.string ByteArray.empty, .slice none 0 0] := by
    rw [hW]; have := (Blk.new (w.alloc (.cells #[.string x.Name, .slice qDaysA x.Days.length qDaysC] 57)) 51 #[.string ByteArray.empty, .slice none 0 0]).alloc (.cells #[.string x.Name, .slice none 0 0] 51); simpa using this
  clear hW
  refine (c_toInt64S qDaysA qDaysC x.Days W bl0 (hR0.x hx0')).mono ?_
  rintro e w0 ⟨gDays, rfl, hg0, hB0, hx0⟩
  have hh0 : w.heap.size + 3 ≤ gDays := by have := hg0; omega
  have sz0 := hx0.size
  replace hO := hO.x hx0
  replace hP := hP.x hx0
  have hxx0 := IsX.trans hx0' hx0
  have o0_0 := hO.cell 0
  have o0_1 := hO.cell 1
  have z0 := hO.frozen 1
  simp at o0_0 o0_1
  have r0 := hP.cell 0
  have y0 := hP.frozen 0
  have r1 := hP.cell 1
  have y1 := hP.frozen 1
  simp at r0 r1
  clear hg0 hx0 hx0'
  go_wp2_with fail
  have hPA := hP.far (p := ⟨w.heap.size + 1 + 1, 1, none⟩) (by simp) (.slice (some ⟨gDays, 0, none⟩) x.Days.length x.Days.length)
  have f0 := (hPA.set_ 0 (.string x.Name)).cell 0
  have f1 := ((hPA.set_ 0 (.string x.Name)).set_ 1 (.slice (some ⟨gDays, 0, none⟩) x.Days.length x.Days.length)).cell 1
  simp at f0 f1
  exact bodyPost_ret (v := .agg #[.string x.Name, .slice (some ⟨gDays, 0, none⟩) x.Days.length x.Days.length]) (by simp [results, Try.results38, go_sem, f0, f1]) rfl ⟨_, rfl, (by omega), (by repeat (first | exact hB0 | refine Blk.far ?_ (by first | omega | (simp; omega)) _)), (by repeat (first | exact hxx0 | exact IsX.refl _ | refine IsX.setCell ?_ (by first | (simp; done) | (simp; omega)) _))⟩

def PersonR.own (lo : Nat) (w : World) (r : PersonR) : Prop := (∃ g, r.DaysA = some ⟨g, 0, none⟩ ∧ lo ≤ g ∧ r.DaysC = r.Days.length ∧ Blk w g 2 (r.Days.flatMap intC).toArray)
theorem PersonR.own.x {lo : Nat} {w w' : World} {r : PersonR} (h : r.own lo w) (hx : IsX w w') : r.own lo w' := by
  obtain ⟨g0, e0, l0, q0, b0⟩ := h
  exact ⟨g0, e0, l0, q0, b0.x hx⟩
theorem PersonR.own.ok {lo : Nat} {w : World} {r : PersonR} (h : r.own lo w) : r.ok lo w := by
  obtain ⟨g0, e0, l0, q0, b0⟩ := h
  exact ⟨by rw [e0]; exact b0.rd intC_len, fun b off s h => by rw [e0] at h; injection h with h; injection h with h; omega⟩
theorem PersonR.own.put {lo g : Nat} {w : World} {r : PersonR} (h : r.own lo w) (hg : g < lo) (vs : List Value) (o : Nat) : r.own lo (putAll w g o vs) := by
  obtain ⟨g0, e0, l0, q0, b0⟩ := h
  exact ⟨g0, e0, l0, q0, putAll_blk_far g (by omega) vs o w b0⟩
/-- A list of Person in memory of its own: block g is its row, its elements' slices lie in later blocks. -/
def MadePerson (w : World) (g : Nat) (xs : List PersonD) : Prop := ∃ rs : List PersonR, rs.map PersonR.data = xs ∧ Blk w g 51 (rs.flatMap PersonR.cells).toArray ∧ ∀ r ∈ rs, r.own (g + 1) w
theorem MadePerson.x {w w' : World} {g : Nat} {xs : List PersonD} (h : MadePerson w g xs) (hx : IsX w w') : MadePerson w' g xs := by
  obtain ⟨rs, e, hb, ho⟩ := h
  exact ⟨rs, e, hb.x hx, fun r hr => (ho r hr).x hx⟩
theorem MadePerson.rd {w : World} {g : Nat} {xs : List PersonD} (h : MadePerson w g xs) : RdPerson 0 w (some ⟨g, 0, none⟩) xs := by
  obtain ⟨rs, e, hb, ho⟩ := h
  exact ⟨rs, e, hb.rd PersonR.cells_len, fun r hr => let h := (ho r hr).ok; ⟨h.1, fun _ _ _ _ => Nat.zero_le _⟩⟩

set_option maxHeartbeats 800000 in
theorem c_eqPerson (x : PersonD) (qDaysA : Option Addr) (qDaysC : Nat) (uDaysA : Option Addr) (uDaysC : Nat) (w : World) (hx : x.small 1099511627776) (hR0 : Rd intC 1 w qDaysA x.Days) (hU0 : Rd intC 1 w uDaysA x.Days) : Calls Try.prog 45 #[.agg #[.string x.Name, .slice qDaysA x.Days.length qDaysC], .agg #[.string x.Name, .slice uDaysA x.Days.length uDaysC]] w fun e w' => e = .returned (.bool true) ∧ IsX w w' := by
  have bl0 : x.Days.length ≤ 1099511627776 := by have := hx; simp only [PersonD.small] at this; omega
  clear hx
  go_enter Try.func45, Try.ntmps45
  go_wp2_with fail
  refine (c_eqInt64S qDaysA uDaysA qDaysC uDaysC x.Days _ bl0 (hR0.x (((IsX.refl w).alloc _).alloc _)) (hU0.x (((IsX.refl w).alloc _).alloc _))).mono ?_
  rintro e w0 ⟨rfl, p0, rfl⟩
  go_wp2_with fail
  go_ret
  exact ⟨rfl, IsX.xt (((IsX.refl w).alloc _).alloc _) p0⟩

theorem Person_info : (Try.prog.info? 51).map (fun i => (i.zero, i.size, i.bytes)) = some (some (.agg #[.string ByteArray.empty, .slice none 0 0]), 2, 40) := by kernel_rfl
theorem rs_stepPerson {xs : List PersonD} {rs : List PersonR} {k : Nat} {r : PersonR} (h : rs.map PersonR.data = xs.take k) (hk : k < xs.length) (hr : r.data = xs[k]) : (rs ++ [r]).map PersonR.data = xs.take (k + 1) := by
  rw [List.map_append, h, List.take_succ_eq_append_getElem hk, List.map_cons, List.map_nil, hr]
set_option maxHeartbeats 800000 in
theorem c_toPersonS (A : Option Addr) (c : Nat) (xs : List PersonD) (w : World) (hn : xs.length ≤ 1099511627776) (hs : ∀ x ∈ xs, x.small 1099511627776) (hA : RdPerson 0 w A xs) :
    Calls Try.prog 9 #[.slice A xs.length c] w fun e w' => ∃ g, e = .returned (.slice (some ⟨g, 0, none⟩) xs.length xs.length) ∧ w.heap.size ≤ g ∧ MadePerson w' g xs ∧ IsX w w' := by
  obtain ⟨i0, hi0, hz0, hz1, hz2⟩ := info_parts Person_info
  obtain ⟨n, hnn⟩ : ∃ n, n = xs.length := ⟨_, rfl⟩
  have HN := hide hnn
  rw [← hnn] at hn ⊢
  clear hnn
  have HS := hide hs
  clear hs
  have hmk := fun W => run_make_rowN (P := Try.prog) 29 51 i0 _ Try.underlying29 hi0 hz0 .i64 .i64 n n (Nat.le_refl _) (by rw [hz2]; omega) (by omega) W
  rw [hz1] at hmk
  clear hz0 hz1 hz2 hi0
  go_enter Try.func9, Try.ntmps9
  go_wp2
  go_loopw [4] (fun i wr => ∃ (k : Nat) (rs : List PersonR), k ≤ n ∧ i = .int .i64 k ∧ rs.length = k ∧ rs.map PersonR.data = xs.take k ∧ (∀ r ∈ rs, r.own (w.heap.size + 1) wr) ∧ FillN PersonR.cells 2 51 n w wr w.heap.size rs) (fun i _ => n - (intOf i).toNat)
  case atStart => exact ⟨0, [], Nat.zero_le _, rfl, rfl, rfl, fun r hr => (List.not_mem_nil hr).elim, FillN.start w (IsX.refl _) _ (size_madeCells _ _)⟩
  case round =>
    obtain ⟨k, rs, hk, rfl, hrl, hrd, hro, ⟨⟨p, rfl⟩, cur, hB, hcs, hcur⟩⟩ := hrel
    have H1 := hide hrl
    have H2 := hide hrd
    have H3 := hide hro
    have H4 := hide hcur
    clear hrl hrd hro hcur
    by_cases hlt : k < n
    · have hltx : k < xs.length := HN.out ▸ hlt
      obtain ⟨b, off, qDaysA, qDaysC, rfl, hb, c0, c1, r0⟩ := RdPerson.rd hA (show xs[k]? = some xs[k] from List.getElem?_eq_getElem _)
      clear hA
      have hgl := hB.lt
      go_wp2_with (go_at_call 38; refine (c_toPerson xs[k] _ _ _ (HS.out _ (List.getElem_mem _)) (r0.x ⟨p, rfl⟩)).mono ?_; rintro e w1 ⟨g0, rfl, l0, b0, hx1⟩; have hB1 := hB.x hx1; clear hB; obtain ⟨v0, s0⟩ := hB1.has (i := k * 2) (by rw [hcs]; omega); have z0 := hB1.frozen (k * 2); obtain ⟨v1, s1⟩ := hB1.has (i := k * 2 + 1) (by rw [hcs]; omega); have z1 := hB1.frozen (k * 2 + 1))
      have hst := FillN.step (cells := PersonR.cells) (x := (⟨xs[k].Name, some ⟨g0, 0, none⟩, xs[k].Days.length, xs[k].Days⟩ : PersonR)) hB1 hcs H4.out H1.out hlt PersonR.cells_len (IsX.trans ⟨p, rfl⟩ hx1) (Nat.le_refl _)
      have how : ∀ r ∈ rs ++ [(⟨xs[k].Name, some ⟨g0, 0, none⟩, xs[k].Days.length, xs[k].Days⟩ : PersonR)], r.own (w.heap.size + 1) (putAll w1 w.heap.size (k * 2) (PersonR.cells ⟨xs[k].Name, some ⟨g0, 0, none⟩, xs[k].Days.length, xs[k].Days⟩)) := by
        intro r hr
        rcases List.mem_append.1 hr with hr | hr
        · exact ((H3.out r hr).x hx1).put (by omega) _ _
        · rw [List.mem_singleton] at hr
          subst hr
          exact PersonR.own.put (lo := w.heap.size + 1) ⟨g0, rfl, by omega, rfl, b0⟩ (by omega) _ _
      have H5 := hide hst
      have H6 := hide how
      clear hst how
      go_roundw
      case rel => exact ⟨k + 1, _, by omega, by go_num, by rw [List.length_append, H1.out]; rfl, rs_stepPerson H2.out hltx rfl, H6.out, H5.out⟩
      case measure => simp [intOf]; omega
    · obtain rfl : k = n := by omega
      have hdn := FillN.done (cells := PersonR.cells) (n := k) (rs := rs) (w := w) ⟨⟨p, rfl⟩, cur, hB, hcs, H4.out⟩ H1.out PersonR.cells_len
      have H5 := hide hdn
      clear hdn
      go_wp2
      go_ret
      exact ⟨w.heap.size, rfl, Nat.le_refl _, ⟨rs, by rw [H2.out, HN.out, List.take_length], H5.out.1, H3.out⟩, ⟨p, rfl⟩⟩

set_option maxHeartbeats 800000 in
theorem c_eqPersonS (A A' : Option Addr) (c c' : Nat) (xs : List PersonD) (w : World) (hn : xs.length ≤ 1099511627776) (hs : ∀ x ∈ xs, x.small 1099511627776) (hA : RdPerson 0 w A xs) (hA' : RdPerson 0 w A' xs) :
    Calls Try.prog 13 #[.slice A xs.length c, .slice A' xs.length c'] w fun e w' => e = .returned (.bool true) ∧ IsX w w' := by
  obtain ⟨n, hnn⟩ : ∃ n, n = xs.length := ⟨_, rfl⟩
  have HN := hide hnn
  rw [← hnn] at hn ⊢
  clear hnn
  have HS := hide hs
  clear hs
  go_enter Try.func13, Try.ntmps13
  go_wp2
  go_loopw [5] (fun i wr => ∃ k : Nat, k ≤ n ∧ i = .int .i64 k ∧ IsX w wr) (fun i _ => n - (intOf i).toNat)
  case atStart => exact ⟨0, Nat.zero_le _, rfl, IsX.refl _⟩
  case round =>
    obtain ⟨k, hk, rfl, p, rfl⟩ := hrel
    by_cases hlt : k < n
    · have hltx : k < xs.length := HN.out ▸ hlt
      obtain ⟨b, off, qDaysA, qDaysC, rfl, hb, c0, c1, r0⟩ := RdPerson.rd hA (show xs[k]? = some xs[k] from List.getElem?_eq_getElem _)
      obtain ⟨b', off', uDaysA, uDaysC, rfl, hb', d0, d1, t0⟩ := RdPerson.rd hA' (show xs[k]? = some xs[k] from List.getElem?_eq_getElem _)
      clear hA hA'
      go_wp2
      refine wp_region_x (by kernel_rfl) (by kernel_rfl) ?_
      repeat (go_big_quiet_step ((go_at_call 45; exact call_x (c_eqPerson xs[k] _ _ _ _ _ (HS.out _ (List.getElem_mem _)) (r0.x (IsX.xt ⟨p, rfl⟩ _)) (t0.x (IsX.xt ⟨p, rfl⟩ _))))))
      refine wpQuiet_nil ?_
      rintro _ ⟨q, rfl⟩
      go_wp2
      go_roundw
      case rel => exact ⟨k + 1, by omega, by go_num, IsX.xt ⟨p, rfl⟩ q⟩
      case measure => simp [intOf]; omega
    · obtain rfl : k = n := by omega
      go_wp2
      go_ret
      exact ⟨rfl, ⟨p, rfl⟩⟩

end Go.Proofs.Ytfkhhioadklomaa
