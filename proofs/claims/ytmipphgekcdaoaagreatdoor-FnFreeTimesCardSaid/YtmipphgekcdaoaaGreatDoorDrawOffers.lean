/- Lists of offers that are drawn: some list of well-formed offers. Conditions: fewer than 2^39 choices. -/
import Derived.Test.YtmipphgekcdaoaaGreatDoorDrawOneAll
import Derived.Laws.BytesArg
namespace Go.Proofs.YtmipphgekcdaoaaGreatDoor
set_option linter.unusedVariables false
open Go.RowKit Go.ChangeShapes

theorem OfferK_info : (Tryz.prog.info? 33).map (fun i => (i.zero, i.size, i.bytes)) = some (some (.agg #[.string ByteArray.empty, .string ByteArray.empty, .int .i64 0, .int .i64 0, .int .i64 0]), 5, 56) := by kernel_rfl
theorem offer_readsD (w : World) (x : OfferD) : Reads (w.alloc (.cells #[.string x.Id, .string x.Kind, .int .i64 x.Start, .int .i64 x.Length, .int .i64 x.Worth] 33)) (w.alloc (.cells #[.string x.Id, .string x.Kind, .int .i64 x.Start, .int .i64 x.Length, .int .i64 x.Worth] 33)).heap.size 5 (some ⟨w.heap.size, 0, none⟩) 1 x.cells := by
  have h := Rd.reads (cells := OfferD.cells) (xs := [x]) (by omega) OfferD.cells_len (Blk.rd (cells := OfferD.cells) (xs := [x]) (t := 33) OfferD.cells_len (Blk.new w 33 #[.string x.Id, .string x.Kind, .int .i64 x.Start, .int .i64 x.Length, .int .i64 x.Worth]))
  simpa using h
theorem offer_readsD' (w : World) (x : OfferD) (g : Nat) (hg : w.heap.size = g) : Reads (w.alloc (.cells #[.string x.Id, .string x.Kind, .int .i64 x.Start, .int .i64 x.Length, .int .i64 x.Worth] 33)) (w.alloc (.cells #[.string x.Id, .string x.Kind, .int .i64 x.Start, .int .i64 x.Length, .int .i64 x.Worth] 33)).heap.size 5 (some ⟨g, 0, none⟩) 1 x.cells := by
  subst hg; exact offer_readsD w x
theorem offer_oneD (x : OfferD) : ∀ u ∈ x.cells, u.oneCell' = true := by
  intro u hu
  simp only [OfferD.cells, List.mem_cons, List.not_mem_nil, or_false] at hu
  rcases hu with rfl | rfl | rfl | rfl | rfl <;> rfl
theorem offers_snoc (xs : List OfferD) (x : OfferD) : (xs ++ [x]).flatMap OfferD.cells = xs.flatMap OfferD.cells ++ x.cells := by simp
theorem wf_snoc {xs : List OfferD} {x : OfferD} (h : ∀ y ∈ xs, y.wf) (hx : x.wf) : ∀ y ∈ xs ++ [x], y.wf := fun y hy => by
  rcases List.mem_append.1 hy with h1 | h1
  · exact h y h1
  · simp at h1; subst h1; exact hx
theorem sm_wf {x : OfferD} (h : x.sm) (hi : x.Id.size ≤ 10) : x.wf := by
  obtain ⟨h1, h2, h3, h4⟩ := h
  simp only [OfferD.wf, maxLen]
  omega
def dayNames : List ByteArray := [⟨#[97]⟩, ⟨#[98]⟩, ⟨#[99]⟩, ⟨#[100]⟩, ⟨#[101]⟩, ⟨#[102]⟩, ⟨#[103]⟩]
theorem day_len : dayNames.length = 7 := rfl
theorem day_sz : ∀ s ∈ dayNames, s.size ≤ 10 := by
  intro s hs
  simp only [dayNames, List.mem_cons, List.not_mem_nil, or_false] at hs
  rcases hs with rfl | rfl | rfl | rfl | rfl | rfl | rfl <;> simp [ByteArray.size]
theorem Rd.grB {α : Type} {cells : α → List Value} {k g : Nat} {xs : List α} {w w1 : World} {r : Option Nat} (h : Rd cells k w (some ⟨g, 0, none⟩) xs) (hg : w.grownBy w1 r) (hn : some g ≠ r) : Rd cells k w1 (some ⟨g, 0, none⟩) xs := fun i x hi => by
  obtain ⟨b, off, e, hb, hc⟩ := h i x hi
  injection e with e
  injection e with e1 e2
  subst e1 e2
  exact ⟨_, _, rfl, Nat.lt_of_lt_of_le hb hg.size, fun j u hu => (World.cell?_of_block (a := ⟨g, 0 + i * k + j, none⟩) (hg.block g hb hn)).trans (hc j u hu)⟩
/-- a row of offers of its own, the names behind it, block X has been written to -/
structure StQ (X : Nat) (N : Int) (NB : Nat) (v : Value) (n : Nat) (L : List Value) (w wr : World) : Prop where
  own : wr.ownsRow (NB + 1) 33 5 v n L
  rd : Rd strC 1 wr (some ⟨NB, 0, none⟩) dayNames
  gr : w.grownBy wr (some X)
  src : SrcAt X N wr
  XN : X < NB
  NBl : NB < wr.heap.size
  wN : w.heap.size ≤ NB
section
variable {X NB n : Nat} {N : Int} {v : Value} {L : List Value} {w wr w1 : World}
theorem StQ.x (h : StQ X N NB v n L w wr) (hx : IsX wr w1) : StQ X N NB v n L w w1 := ⟨own_x' h.own hx, h.rd.x hx, gr_x h.gr hx, h.src.x hx, h.XN, Nat.lt_of_lt_of_le h.NBl hx.size, h.wN⟩
theorem StQ.pick {M : Int} (h : StQ X N NB v n L w wr) (hg : wr.grownBy w1 (some X)) (hat : SrcAt X M w1) : StQ X M NB v n L w w1 :=
  ⟨own_grX h.own hg (by have := h.XN; omega), h.rd.grB hg (by intro e; injection e with e; have := h.XN; omega), gr_tr h.gr hg, hat, h.XN, Nat.lt_of_lt_of_le h.NBl hg.size, h.wN⟩
theorem StQ.le {M : Int} (h : StQ X N NB v n L w wr) (hM : N ≤ M) : StQ X M NB v n L w wr := ⟨h.own, h.rd, h.gr, h.src.le hM, h.XN, h.NBl, h.wN⟩
theorem StQ.far (h : StQ X N NB v n L w wr) (KB j : Nat) (u : Value) (hK : NB < KB) (hv : ∀ i, v.ownBlock = some i → i ≠ KB) : StQ X N NB v n L w (wr.setCell ⟨KB, j, none⟩ u) :=
  ⟨h.own.kept (gr_of_set wr KB j u) (by
      cases hv' : v.ownBlock with
      | none => exact .inl rfl
      | some i => exact .inr (fun e => by injection e with e; exact hv i hv' e)),
    h.rd.grB (gr_of_set wr KB j u) (by intro e; injection e with e; omega),
    gr_far h.gr (by have := h.wN; omega) j u,
    h.src.gr (gr_of_set wr KB j u) (fun g hg => by injection hg with hg; have := h.XN; omega),
    h.XN, by simpa [World.setCell] using h.NBl, h.wN⟩
theorem StQ.app {v' : Value} {n' : Nat} {L' : List Value} {o : Obj} (h : StQ X N NB v n L w wr) (hg : (wr.alloc o).grownBy w1 v.ownBlock) (ho : w1.ownsRow (NB + 1) 33 5 v' n' L') : StQ X N NB v' n' L' w w1 :=
  ⟨ho, (h.rd.x ((IsX.refl wr).alloc o)).grB hg (by intro e; have := (h.own.lt NB e.symm).1; omega), gr_app h.gr h.own hg (by have := h.wN; omega),
    (h.src.x ((IsX.refl wr).alloc o)).gr hg (fun g hg => by have := (h.own.lt g hg).1; have := h.XN; omega), h.XN, Nat.lt_of_lt_of_le (by have := h.NBl; simp; omega) hg.size, h.wN⟩
theorem StQ.new {v' : Value} {n' : Nat} {L' : List Value} (h : StQ X N NB v n L w wr) (hx : IsX wr w1) (ho : w1.ownsRow (NB + 1) 33 5 v' n' L') : StQ X N NB v' n' L' w w1 :=
  ⟨ho, h.rd.x hx, gr_x h.gr hx, h.src.x hx, h.XN, Nat.lt_of_lt_of_le h.NBl hx.size, h.wN⟩
end
/-- some list of offers, the call's own; block X has been written to -/
def OffersQ (X : Nat) (N : Int) (w : World) (e : Ending) (w' : World) : Prop := ∃ (A : Option Addr) (c : Nat) (xs : List OfferD), e = .returned (.slice A xs.length c) ∧ xs.length ≤ 100 ∧ (∀ x ∈ xs, x.wf) ∧ w'.ownsRow w.heap.size 33 5 (.slice A xs.length c) xs.length (xs.flatMap OfferD.cells) ∧ w.grownBy w' (some X) ∧ SrcAt X N w'
set_option maxHeartbeats 6400000 in
set_option maxRecDepth 100000 in
theorem c_drawOffers (X : Nat) (N : Int) (w : World) (hN : N ≤ 1099511610000) (hs : SrcAt X N w) : Calls Tryz.prog 16 #[.pointer (some ⟨X, 0, none⟩)] w (OffersQ X (N + 300) w) := by
  have HS := hide hs
  have hXw := hs.lt
  have HI := hide (info_parts OfferK_info)
  clear hs
  go_enter Tryz.func16, Tryz.ntmps16
  go_wp2_with fail
  obtain ⟨NB, hNB⟩ : ∃ NB, NB = w.heap.size := ⟨_, rfl⟩
  generalize hw0 : World.alloc (World.alloc w _) _ = w0
  have hR0 : Rd strC 1 w0 (some ⟨NB, 0, none⟩) dayNames := by
    rw [← hw0, hNB]
    have h := Blk.rd (cells := strC) (xs := dayNames) (t := 9) strC_len (Blk.new w 9 #[.string ⟨#[97]⟩, .string ⟨#[98]⟩, .string ⟨#[99]⟩, .string ⟨#[100]⟩, .string ⟨#[101]⟩, .string ⟨#[102]⟩, .string ⟨#[103]⟩])
    exact h.x ((IsX.refl _).alloc _)
  have hx0 : IsX w w0 := by rw [← hw0]; exact ((IsX.refl w).alloc _).alloc _
  have hO0 : w0.ownsRow (NB + 1) 33 5 (.slice (some ⟨NB + 1, 0, none⟩) 0 0) 0 [] := by
    rw [← hw0, hNB]; have h := World.ownsRow_made (base := w.heap.size + 1) (e := 33) (size := 5) (w.alloc (.cells #[.string ⟨#[97]⟩, .string ⟨#[98]⟩, .string ⟨#[99]⟩, .string ⟨#[100]⟩, .string ⟨#[101]⟩, .string ⟨#[102]⟩, .string ⟨#[103]⟩] 9)) #[] 0 (by simp) (by simp [maxLen]) rfl; simpa using h
  have hXN : X < NB := by rw [hNB]; exact hXw
  have hNBl : NB < w0.heap.size := by rw [← hw0, hNB]; simp; omega
  have hwN : w.heap.size ≤ NB := by omega
  rw [← hNB]
  have HT0 : Hid (StQ X N NB (.slice (some ⟨NB + 1, 0, none⟩) 0 0) 0 [] w w0) := hide ⟨hO0, hR0, gr_of_x hx0 _, HS.out.x hx0, hXN, hNBl, hwN⟩
  clear hw0 hNB hO0 hR0 hx0 HS hNBl hXw
  go_loopw [4, 5] (fun ov kv wr => ∃ (k : Nat) (xs : List OfferD) (A : Option Addr) (c : Nat), kv = .int .i64 (k : Int) ∧ k ≤ 7 ∧ ov = .slice A xs.length c ∧ xs.length ≤ k ∧ Hid (∀ x ∈ xs, x.wf) ∧ Hid (StQ X (N + k * 12) NB ov xs.length (xs.flatMap OfferD.cells) w wr)) (fun _ kv _ => 7 - (intOf kv).toNat)
  case atStart => exact ⟨0, [], _, _, rfl, by omega, rfl, Nat.le_refl _, hide (fun x hx => by simp at hx), hide (HT0.out.le (by omega))⟩
  case round =>
    clear HT0
    obtain ⟨k, xs, A, c, rfl, hk6, rfl, hxl, HWF, HT⟩ := hrel
    obtain ⟨n, hnn⟩ : ∃ n, n = xs.length := ⟨_, rfl⟩
    have HN := hide hnn
    rw [← hnn] at hxl HT ⊢
    clear hnn
    by_cases hkp : k < 7
    · go_wp2_with fail
      refine (c_one X _ 3 wr (by omega) (by omega) HT.out.src).mono ?_
      rintro e w1 ⟨b1, rfl, hg, hat⟩
      have HT1 := hide (HT.out.pick hg hat)
      clear hg hat HT
      cases b1
      rotate_left
      · go_wp2_with fail
        go_roundw
        case rel => exact ⟨k + 1, xs, A, c, by go_num, by omega, by rw [HN.out], by rw [← HN.out]; omega, HWF, by rw [← HN.out]; exact hide (HT1.out.le (by omega))⟩
        case measure => simp [intOf]; omega
      · obtain ⟨nm, hnm⟩ : ∃ nm, dayNames[k]? = some nm := ⟨_, List.getElem?_eq_getElem (by rw [day_len]; exact hkp)⟩
        have HNM := hide (day_sz nm (List.mem_of_getElem? hnm))
        obtain ⟨b', off', e, hb', z0⟩ := str_rd HT1.out.rd hnm
        injection e with e
        injection e with e1 e2
        subst e1 e2
        clear hnm
        simp only [Nat.zero_add] at z0
        go_wp2_with fail
        refine (c_drawOne X _ nm w1 (by omega) HT1.out.src).mono ?_
        rintro e w3 ⟨⟨xi, xk, xst, xl, xw⟩, rfl, hid, hsm, hg, hat⟩
        simp only at hid
        subst hid
        have HSM := hide hsm
        have HT3 := hide (HT1.out.pick hg hat)
        have hNB6 : NB + 1 ≤ w3.heap.size := HT3.out.NBl
        clear hg hat hsm HT1 z0
        unfold offerV
        go_wp2_with (at_builtin; obtain ⟨i0, hi0, hz0, hz1, hz2⟩ := HI.out; refine wpList_append_any _ rfl (.tmp 19) (.tmp 26) _ rfl (NB + 1) 33 i0 _ 5 56 Tryz.underlying24 hi0 hz0 hz1 hz2 rfl (by omega) (.slice A n c) n (xs.flatMap OfferD.cells) rfl (HT3.out.own.alloc _) _ (some ⟨w3.heap.size, 0, none⟩) 1 1 (OfferD.cells ⟨xi, xk, xst, xl, xw⟩) rfl (offer_readsD w3 ⟨xi, xk, xst, xl, xw⟩) (offer_oneD ⟨xi, xk, xst, xl, xw⟩) (by simp only [maxLen]; omega) (by omega) (by simp; omega) ?_; clear hi0 hz0 hz1 hz2; intro vN wN hownN hgN hatN; obtain ⟨A', c', rfl⟩ := own_form hownN)
        have HTN := hide (HT3.out.app hgN hownN)
        clear hownN hgN hatN
        go_wp2_with fail
        go_roundw
        case rel => exact ⟨k + 1, xs ++ [⟨xi, xk, xst, xl, xw⟩], A', c', by go_num, by omega, by simp [← HN.out], by simp [← HN.out]; omega, hide (wf_snoc HWF.out (sm_wf HSM.out HNM.out)), hide (by rw [offers_snoc]; have h := HTN.out.le (M := N + ((k + 1 : Nat) : Int) * 12) (by omega); simpa [← HN.out] using h)⟩
        case measure => simp [intOf]; omega
    · obtain rfl : k = 7 := by omega
      rw [show (((7 : Nat) : Int)) = 7 from rfl]
      go_wp2_with fail
      refine (c_pick X _ 20 wr (by omega) (by omega) HT.out.src).mono ?_
      rintro e w10 ⟨v, rfl, v0, v1, hg, hat⟩
      have HT1 := hide (HT.out.pick hg hat)
      clear hg hat v1 HT
      have HQ : Hid (∀ (A' : Option Addr) (c' : Nat) (ys : List OfferD) (W : World), ys.length ≤ 100 → (∀ x ∈ ys, x.wf) → StQ X (N + 300) NB (.slice A' ys.length c') ys.length (ys.flatMap OfferD.cells) w W → OffersQ X (N + 300) w (.returned (.slice A' ys.length c')) W) := hide (fun A' c' ys W h1 h2 h4 => ⟨A', c', ys, rfl, h1, h2, row_le' h4.own (by have := h4.wN; omega), h4.gr, h4.src⟩)
      by_cases e0 : v = 0
      · subst e0
        go_wp2_with fail
        refine (c_drawOne X _ ⟨#[122, 122]⟩ w10 (by omega) HT1.out.src).mono ?_
        rintro e w3 ⟨x, rfl, hid, hsm, hg, hat⟩
        have HID := hide hid
        have HSM := hide hsm
        have HT3 := hide (HT1.out.pick hg hat)
        clear hg hat hsm hid HT1
        go_wp2_with fail
        refine (c_bend X _ x w3 (by omega) HSM.out HT3.out.src).mono ?_
        rintro e w5 ⟨⟨xi, xk, xst, xl, xw⟩, rfl, hid, hsm, hg, hat⟩
        have HID2 := hide hid
        have HSM2 := hide hsm
        have HT6 := hide (HT3.out.pick hg hat)
        have hNB6 : NB + 1 ≤ w5.heap.size := HT6.out.NBl
        clear hg hat hsm hid HT3
        unfold offerV
        go_wp2_with (at_builtin; obtain ⟨i0, hi0, hz0, hz1, hz2⟩ := HI.out; refine wpList_append_any _ rfl (.tmp 32) (.tmp 37) _ rfl (NB + 1) 33 i0 _ 5 56 Tryz.underlying24 hi0 hz0 hz1 hz2 rfl (by omega) (.slice A n c) n (xs.flatMap OfferD.cells) rfl (HT6.out.own.alloc _) _ (some ⟨w5.heap.size, 0, none⟩) 1 1 (OfferD.cells ⟨xi, xk, xst, xl, xw⟩) rfl (offer_readsD w5 ⟨xi, xk, xst, xl, xw⟩) (offer_oneD ⟨xi, xk, xst, xl, xw⟩) (by simp only [maxLen]; omega) (by omega) (by simp; omega) ?_; clear hi0 hz0 hz1 hz2; intro vN wN hownN hgN hatN; obtain ⟨A', c', rfl⟩ := own_form hownN)
        have HTN := hide (HT6.out.app hgN hownN)
        clear hownN hgN hatN
        go_wp2_with fail
        go_ret
        have hsz : xi.size ≤ 10 := by have h := HID2.out; rw [show xi = _ from h, HID.out]; simp [ByteArray.size]
        have h := HQ.out A' c' (xs ++ [⟨xi, xk, xst, xl, xw⟩]) wN (by simp [← HN.out]; omega) (wf_snoc HWF.out (sm_wf HSM2.out hsz)) (by rw [offers_snoc]; have h := HTN.out.le (M := N + 300) (by omega); simpa [← HN.out] using h)
        simpa [← HN.out] using h
      have q0 : (v == 0) = false := by simp only [beq_eq_false_iff_ne, ne_eq]; exact e0
      by_cases e2 : v = 1
      · subst e2
        clear q0 e0
        go_wp2_with fail
        obtain ⟨KL, hKL⟩ : ∃ KL, KL = w10.heap.size := ⟨_, rfl⟩
        generalize hwl : World.alloc w10 _ = wl
        have hRl : Rd intC 1 wl (some ⟨KL, 0, none⟩) [16, 17] := by
          rw [← hwl, hKL]
          exact Blk.rd (cells := intC) (xs := [16, 17]) (t := 2) intC_len (Blk.new w10 2 _)
        have hxl5 : IsX w10 wl := by rw [← hwl]; exact (IsX.refl w10).alloc _
        have hXK : X < KL := by have := HT1.out.src.lt; omega
        rw [← hKL]
        have HL5 := hide (HT1.out.x hxl5)
        clear hwl hxl5 hKL HT1
        refine (c_among X _ (16) (17) (some ⟨KL, 0, none⟩) 2 [16, 17] wl (by omega) (by simp) (by simp) (by simp; try omega) hRl (fun b off e => by injection e with e; injection e with e1 e2; omega) HL5.out.src).mono ?_
        rintro e w5 ⟨v3, rfl, v30, v31, hg, hat⟩
        have HT6 := hide (HL5.out.pick hg hat)
        clear hg hat hRl HL5 hXK
        go_wp2_with fail
        obtain ⟨KO, hKO⟩ : ∃ KO, KO = w5.heap.size := ⟨_, rfl⟩
        generalize hw12 : World.alloc w5 _ = w12
        have hO12 : w12.ownsRow (NB + 1) 33 5 (.slice (some ⟨KO, 0, none⟩) 0 0) 0 [] := by rw [← hw12, hKO]; exact World.ownsRow_made (base := NB + 1) (e := 33) (size := 5) w5 #[] 0 HT6.out.NBl (by simp [maxLen]) rfl
        have HT12 := hide (HT6.out.new (w1 := w12) (by rw [← hw12]; exact (IsX.refl w5).alloc _) hO12)
        rw [← hKO]
        clear hw12 hKO hO12 HT6 HN HWF
        go_loopw [4, 7] (fun ov kv wr => ∃ (xs : List OfferD) (k : Int) (A : Option Addr) (c : Nat), kv = .int .i64 k ∧ 0 ≤ k ∧ k ≤ v3 ∧ ov = .slice A xs.length c ∧ (xs.length : Int) = k ∧ Hid (∀ x ∈ xs, x.wf) ∧ Hid (StQ X (N + 200) NB ov xs.length (xs.flatMap OfferD.cells) w wr)) (fun _ kv _ => (v3 - intOf kv).toNat)
        case atStart => exact ⟨[], 0, _, _, rfl, Int.le_refl _, by omega, rfl, rfl, hide (fun x hx => by simp at hx), hide (HT12.out.le (by omega))⟩
        case round =>
          clear HT12
          obtain ⟨xs, k, A, c, rfl, hk0, hkm, rfl, hxk, HWF, HT⟩ := hrel
          obtain ⟨n, hnn⟩ : ∃ n, n = xs.length := ⟨_, rfl⟩
          have HN := hide hnn
          rw [← hnn] at hxk HT ⊢
          clear hnn
          by_cases hlt : k < v3
          · have hcv := run_convert_bytes_arg (P := Tryz.prog) (wr.alloc (.cells #[.int .u8 (97 + k)] 5)) 22 5 Tryz.underlying22 Tryz.underlying5 wr.heap.size 0 1 1 [97 + k] rfl (by
              intro i hi
              obtain rfl : i = 0 := by omega
              have hb : Blk (wr.alloc (.cells #[.int .u8 (97 + k)] 5)) wr.heap.size 5 #[.int .u8 (97 + k)] := Blk.new wr _ _
              rw [hb.cell]; rfl) 9 Tryz.underlying9
            have hs1 : (strOfNums [97 + k]).size = 1 := strOfNums_size _
            have hs2 : ((⟨#[110]⟩ : ByteArray) ++ strOfNums [97 + k]).size = 2 := by rw [ByteArray.size_append, hs1]; rfl
            have HS2 := hide hs2
            have HT2 := hide (HT.out.x (w1 := wr.alloc (.cells #[.int .u8 (97 + k)] 5)) ((IsX.refl wr).alloc _))
            have hNB6 : NB + 1 ≤ wr.heap.size := HT.out.NBl
            go_wp2_with (at_builtin; obtain ⟨i0, hi0, hz0, hz1, hz2⟩ := HI.out; refine wpList_append_any _ rfl (.tmp 50) (.tmp 60) _ rfl (NB + 1) 33 i0 _ 5 56 Tryz.underlying24 hi0 hz0 hz1 hz2 rfl (by omega) (.slice A n c) n (xs.flatMap OfferD.cells) rfl (HT2.out.own.alloc _) _ (some ⟨wr.heap.size + 1, 0, none⟩) 1 1 (OfferD.cells ⟨⟨#[110]⟩ ++ strOfNums [97 + k], ⟨#[108, 105, 118, 101]⟩, 60 * k, 50, 1⟩) rfl (offer_readsD' (wr.alloc (.cells #[.int .u8 (97 + k)] 5)) ⟨⟨#[110]⟩ ++ strOfNums [97 + k], ⟨#[108, 105, 118, 101]⟩, 60 * k, 50, 1⟩ (wr.heap.size + 1) (World.size_alloc _ _)) (offer_oneD ⟨⟨#[110]⟩ ++ strOfNums [97 + k], ⟨#[108, 105, 118, 101]⟩, 60 * k, 50, 1⟩) (by simp only [maxLen]; omega) (by omega) (by simp; omega) ?_; clear hi0 hz0 hz1 hz2; intro vN wN hownN hgN hatN; obtain ⟨A', c', rfl⟩ := own_form hownN)
            have HTN := hide (HT2.out.app hgN hownN)
            clear hownN hgN hatN hcv hs1 hs2
            go_wp2_with fail
            go_roundw
            case rel => exact ⟨xs ++ [⟨⟨#[110]⟩ ++ strOfNums [97 + k], ⟨#[108, 105, 118, 101]⟩, 60 * k, 50, 1⟩], k + 1, A', c', by go_num, by omega, by omega, by simp [← HN.out], by simp [← HN.out]; omega, hide (wf_snoc HWF.out ⟨by show (_ : ByteArray).size ≤ maxLen; rw [HS2.out]; unfold maxLen; omega, by show (4 : Nat) ≤ maxLen; unfold maxLen; omega, by show _ ≤ 60 * k ∧ 60 * k ≤ _; omega, by simp, by simp⟩), hide (by rw [offers_snoc]; have h := HTN.out; simpa [← HN.out] using h)⟩
            case measure => simp [intOf]; omega
          · go_wp2_with fail
            go_ret
            have h := HQ.out A c xs wr (by rw [← HN.out]; omega) HWF.out (by have h := HT.out.le (M := N + 300) (by omega); simpa [← HN.out] using h)
            simpa [← HN.out] using h
      · have q2 : (v == 1) = false := by simp only [beq_eq_false_iff_ne, ne_eq]; exact e2
        go_wp2_with fail
        go_ret
        have h := HQ.out A c xs w10 (by rw [← HN.out]; omega) HWF.out (by have h := HT1.out.le (M := N + 300) (by omega); simpa [← HN.out] using h)
        simpa [← HN.out] using h
/-- some list of well-formed offers, and two numbers -/
def DrawQ (w : World) (e : Ending) (w' : World) : Prop := ∃ (A : Option Addr) (c : Nat) (xs : List OfferD) (ch bud : Int), e = .returned (.tuple #[.slice A xs.length c, .int .i64 ch, .int .i64 bud]) ∧ xs.length ≤ 100 ∧ (∀ x ∈ xs, x.wf) ∧ intWf ch ∧ intWf bud ∧ w'.ownsRow w.heap.size 33 5 (.slice A xs.length c) xs.length (xs.flatMap OfferD.cells) ∧ IsX w w'
end Go.Proofs.YtmipphgekcdaoaaGreatDoor
