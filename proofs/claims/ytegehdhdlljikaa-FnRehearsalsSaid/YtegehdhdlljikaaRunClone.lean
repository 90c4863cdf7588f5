/- cloneRuns: copies of runs whose slices are copied too. Conditions: lists no longer than 2^20. -/
import Derived.Test.YtegehdhdlljikaaRunCopy
namespace Go.Proofs.Ytegehdhdlljikaa
set_option linter.unusedVariables false
open Go.RowKit

theorem own_formR' {w : World} {base e size n : Nat} {v : Value} {xs : List Value} (h : w.ownsRow base e size v n xs) : ∃ A c, v = .slice A n c := own_formR h

set_option maxHeartbeats 800000 in
theorem c_CloneS (A : Option Addr) (c : Nat) (xs : List ByteArray) (w : World) (hn : xs.length ≤ 1099511627776) (hA : Rd strC 1 w A xs) :
    Calls Try.prog 31 #[.slice A xs.length c] w fun e w' => ∃ A' c', e = .returned (.slice A' xs.length c') ∧ Own strC 1 9 w' w.heap.size (.slice A' xs.length c') xs ∧ IsX w w' := by
  rcases A with _ | a
  · have hx0 : xs = [] := by
      cases xs with
      | nil => rfl
      | cons y ys => obtain ⟨b, off, e, _⟩ := hA 0 y rfl; cases e
    subst hx0
    clear hA hn
    have hq := fun (W : World) => Lib.run_eql_slice_nil (P := Try.prog) W 26 9 none 0 c 0 0 Try.underlying26
    go_enter Try.func31, Try.ntmps31
    go_wp2
    go_ret
    exact ⟨none, 0, rfl, World.ownsRow_nil _ _ _ _, IsX.refl _⟩
  have HI := hide (info_parts String_info)
  have HR := hide (hA.reads (by omega) strC_len)
  obtain ⟨n, hnn⟩ : ∃ n, n = xs.length := ⟨_, rfl⟩
  have HN := hide hnn
  rw [← hnn] at hn ⊢
  have HR' := hide (show Reads (w.alloc (.cells #[] 9)) w.heap.size 1 (some a) n (xs.flatMap strC) from hnn ▸ HR.out.alloc (Nat.le_refl _) _)
  have HONE := hide (str_one xs)
  clear hnn HR hA
  have hq := fun (W : World) => Lib.run_eql_slice_nil (P := Try.prog) W 26 9 (some a) n c 0 0 Try.underlying26
  go_enter Try.func31, Try.ntmps31
  go_wp2_with (at_builtin; obtain ⟨i0, hi0, hz0, hz1, hz2⟩ := HI.out; refine wpList_append_any _ rfl (.tmp 5) (.tmp 6) _ rfl w.heap.size 9 i0 _ 1 16 Try.underlying26 hi0 hz0 hz1 hz2 rfl (by omega) (.slice (some ⟨w.heap.size, 0, none⟩) 0 0) 0 [] rfl (World.ownsRow_made w #[] 0 (Nat.le_refl _) (by simp [maxLen]) rfl) w.heap.size (some a) n c (xs.flatMap strC) rfl HR'.out HONE.out (by simp only [maxLen]; omega) (by omega) (by simp) ?_; clear hi0 hz0 hz1 hz2; intro v1 w1 hown1 hg1 hat1)
  have HO := hide hown1
  have hx1 : IsX w w1 := IsX.grown ((IsX.refl w).alloc _) hg1 (by intro k hk; simp [Value.ownBlock] at hk; omega)
  clear hown1 hg1 hat1
  go_ret
  have ho := HO.out
  rw [Nat.zero_add, List.nil_append] at ho
  obtain ⟨A', c', rfl⟩ := own_formR' ho
  exact ⟨A', c', rfl, HN.out ▸ ho, hx1⟩

set_option maxHeartbeats 800000 in
theorem c_CloneR (A : Option Addr) (c : Nat) (xs : List RemarkD) (w : World) (hn : xs.length ≤ 1099511627776) (hA : Rd RemarkD.cells 4 w A xs) :
    Calls Try.prog 32 #[.slice A xs.length c] w fun e w' => ∃ A' c', e = .returned (.slice A' xs.length c') ∧ Own RemarkD.cells 4 28 w' w.heap.size (.slice A' xs.length c') xs ∧ IsX w w' := by
  rcases A with _ | a
  · have hx0 : xs = [] := by
      cases xs with
      | nil => rfl
      | cons y ys => obtain ⟨b, off, e, _⟩ := hA 0 y rfl; cases e
    subst hx0
    clear hA hn
    have hq := fun (W : World) => Lib.run_eql_slice_nil (P := Try.prog) W 29 28 none 0 c 0 0 Try.underlying29
    go_enter Try.func32, Try.ntmps32
    go_wp2
    go_ret
    exact ⟨none, 0, rfl, World.ownsRow_nil _ _ _ _, IsX.refl _⟩
  have HI := hide (info_parts Remark_info)
  have HR := hide (hA.reads (by omega) RemarkD.cells_len)
  obtain ⟨n, hnn⟩ : ∃ n, n = xs.length := ⟨_, rfl⟩
  have HN := hide hnn
  rw [← hnn] at hn ⊢
  have HR' := hide (show Reads (w.alloc (.cells #[] 28)) w.heap.size 4 (some a) n (xs.flatMap RemarkD.cells) from hnn ▸ HR.out.alloc (Nat.le_refl _) _)
  have HONE := hide (rem_one xs)
  clear hnn HR hA
  have hq := fun (W : World) => Lib.run_eql_slice_nil (P := Try.prog) W 29 28 (some a) n c 0 0 Try.underlying29
  go_enter Try.func32, Try.ntmps32
  go_wp2_with (at_builtin; obtain ⟨i0, hi0, hz0, hz1, hz2⟩ := HI.out; refine wpList_append_any _ rfl (.tmp 5) (.tmp 6) _ rfl w.heap.size 28 i0 _ 4 48 Try.underlying29 hi0 hz0 hz1 hz2 rfl (by omega) (.slice (some ⟨w.heap.size, 0, none⟩) 0 0) 0 [] rfl (World.ownsRow_made w #[] 0 (Nat.le_refl _) (by simp [maxLen]) rfl) w.heap.size (some a) n c (xs.flatMap RemarkD.cells) rfl HR'.out HONE.out (by simp only [maxLen]; omega) (by omega) (by simp) ?_; clear hi0 hz0 hz1 hz2; intro v1 w1 hown1 hg1 hat1)
  have HO := hide hown1
  have hx1 : IsX w w1 := IsX.grown ((IsX.refl w).alloc _) hg1 (by intro k hk; simp [Value.ownBlock] at hk; omega)
  clear hown1 hg1 hat1
  go_ret
  have ho := HO.out
  rw [Nat.zero_add, List.nil_append] at ho
  obtain ⟨A', c', rfl⟩ := own_formR' ho
  exact ⟨A', c', rfl, HN.out ▸ ho, hx1⟩

/-- the inner rows of runs that are being made -/
structure Inner (w : World) (lo : Nat) (es : List RunE) : Prop where
  cue : ∀ e ∈ es, w.ownsRow lo 9 1 e.cv e.cn e.cl
  rem : ∀ e ∈ es, w.ownsRow lo 28 4 e.rv e.rn e.rl
  sepC : (es.map RunE.cv).Pairwise Apt
  sepR : (es.map RunE.rv).Pairwise Apt
theorem Inner.nil (w : World) (lo : Nat) : Inner w lo [] := ⟨fun e h => by simp at h, fun e h => by simp at h, List.Pairwise.nil, List.Pairwise.nil⟩
theorem Inner.x {w w' : World} {lo : Nat} {es : List RunE} (h : Inner w lo es) (hx : IsX w w') : Inner w' lo es := ⟨fun e he => own_x (h.cue e he) hx, fun e he => own_x (h.rem e he) hx, h.sepC, h.sepR⟩
theorem Inner.under {w w' : World} {lo g : Nat} {es : List RunE} (h : Inner w lo es) (hg : w.grownBy w' (some g)) (hlt : g < lo) : Inner w' lo es := ⟨fun e he => own_under (h.cue e he) hg hlt, fun e he => own_under (h.rem e he) hg hlt, h.sepC, h.sepR⟩
theorem gr_putAll {g : Nat} : ∀ (vs : List Value) (o : Nat) (w : World), w.grownBy (putAll w g o vs) (some g)
  | [], _, w => gr_refl w _
  | v :: vs, o, w => ⟨(gr_putAll vs (o + 1) _).os.trans (gr_set' w g o v).os, (gr_putAll vs (o + 1) _).tape.trans (gr_set' w g o v).tape, (gr_putAll vs (o + 1) _).output.trans (gr_set' w g o v).output, Nat.le_trans (gr_set' w g o v).size (gr_putAll vs (o + 1) _).size, fun k hk hne => ((gr_putAll vs (o + 1) _).block k (Nat.lt_of_lt_of_le hk (gr_set' w g o v).size) hne).trans ((gr_set' w g o v).block k hk hne)⟩
theorem Inner.snoc {wp w : World} {lo : Nat} {es : List RunE} {e : RunE} (h : Inner wp lo es) (hx : IsX wp w) (hb : lo ≤ wp.heap.size) (hc : w.ownsRow wp.heap.size 9 1 e.cv e.cn e.cl) (hr : w.ownsRow wp.heap.size 28 4 e.rv e.rn e.rl) : Inner w lo (es ++ [e]) := by
  have ha := h.x hx
  refine ⟨fun a hm => ?_, fun a hm => ?_, ?_, ?_⟩
  · rcases List.mem_append.1 hm with h1 | h1
    · exact ha.cue a h1
    · simp at h1; subst h1; exact own_mono hc hb
  · rcases List.mem_append.1 hm with h1 | h1
    · exact ha.rem a h1
    · simp at h1; subst h1; exact own_mono hr hb
  · rw [List.map_append, List.pairwise_append]
    refine ⟨h.sepC, List.pairwise_singleton _ _, fun a ha2 b hb2 g hga hgb => ?_⟩
    obtain ⟨x, hx1, rfl⟩ := List.mem_map.1 ha2
    simp at hb2; subst hb2
    have h1 := ((h.cue x hx1).lt g hga).2
    have h2 := (hc.lt g hgb).1
    omega
  · rw [List.map_append, List.pairwise_append]
    refine ⟨h.sepR, List.pairwise_singleton _ _, fun a ha2 b hb2 g hga hgb => ?_⟩
    obtain ⟨x, hx1, rfl⟩ := List.mem_map.1 ha2
    simp at hb2; subst hb2
    have h1 := ((h.rem x hx1).lt g hga).2
    have h2 := (hr.lt g hgb).1
    omega
set_option maxRecDepth 100000 in
set_option maxHeartbeats 12800000 in
theorem c_cloneRuns (A : Option Addr) (c : Nat) (xs : List RunD) (w : World) (hn : xs.length ≤ 1048576) (hs : ∀ x ∈ xs, x.small 1048576) (hA : RdRun 0 w A xs) :
    Calls Try.prog 19 #[.slice A xs.length c] w fun e w' => ∃ A' c' es, e = .returned (.slice A' xs.length c') ∧ RunRow w' w.heap.size (.slice A' xs.length c') es ∧ OfL es xs ∧ IsX w w' := by
  obtain ⟨i0, hi0, hz0, hz1, hz2⟩ := info_parts Run_info
  have HA := hide hA
  have HS := hide hs
  obtain ⟨n, hnn⟩ : ∃ n, n = xs.length := ⟨_, rfl⟩
  have HN := hide hnn
  rw [← hnn] at hn ⊢
  clear hnn hA hs
  have hmk := fun W => run_make_rowN (P := Try.prog) 24 31 i0 _ Try.underlying24 hi0 hz0 .i64 .i64 n n (Nat.le_refl _) (by rw [hz2]; omega) (by omega) W
  rw [hz1] at hmk
  clear hz0 hz1 hz2 hi0
  go_enter Try.func19, Try.ntmps19
  go_wp2_with fail
  go_loopw [11] (fun iv wr => ∃ (k : Nat) (es : List RunE), k ≤ n ∧ iv = .int .i64 k ∧ Hid (Inner wr (w.heap.size + 1) es) ∧ Hid (OfL es (xs.take k)) ∧ Hid (FillN RunE.cells 3 31 n w wr w.heap.size es)) (fun iv _ => n - (intOf iv).toNat)
  case atStart => exact ⟨0, [], Nat.zero_le _, rfl, hide (Inner.nil _ _), hide OfL.nil, hide (FillN.start w (IsX.refl _) _ (size_madeCells _ _))⟩
  case round =>
    clear hmk
    obtain ⟨k, es, hk, rfl, HI, HO, HF⟩ := hrel
    by_cases hlt : k < n
    · have hltx : k < xs.length := HN.out ▸ hlt
      have HEL := hide (show es.length = k by rw [HO.out.len, List.length_take]; omega)
      obtain ⟨⟨p, rfl⟩, cur, hB, hcs, hcur⟩ := HF.out
      obtain ⟨b, off, qC, qR, qCc, qRc, rfl, hb, c0, c1, c2, r0, r1⟩ := RdRun.rd HA.out (show xs[k]? = some xs[k] from List.getElem?_eq_getElem _)
      have hsk := HS.out _ (List.getElem_mem hltx)
      simp only [RunD.small] at hsk
      have HB := hide hB
      have HCS := hide hcs
      have HCU := hide hcur
      have HOF := hide (fun (e : RunE) (h : e.of xs[k]) => (take_snoc hltx ▸ HO.out.snoc h : OfL (es ++ [e]) (xs.take (k + 1))))
      have HMK := hide (fun (A1 A2 : Option Addr) (k1 k2 : Nat) => (⟨rfl, rfl, rfl, rfl, rfl⟩ : RunE.of ⟨.int .i64 xs[k].Day, A1, xs[k].Cues.length, k1, xs[k].Cues.flatMap strC, A2, xs[k].Remarks.length, k2, xs[k].Remarks.flatMap RemarkD.cells⟩ xs[k]))
      have HC0 := hide (fun (W : World) (hW : IsX w W) => c_CloneS qC qCc xs[k].Cues W (by omega) (r0.x hW))
      have HC1 := hide (fun (W : World) (hW : IsX w W) => c_CloneR qR qRc xs[k].Remarks W (by omega) (r1.x hW))
      unfold Own at HC0 HC1
      clear r0 r1 hB hcs hcur
      generalize xs[k].Cues.flatMap strC = cl at HC0 HMK
      generalize xs[k].Remarks.flatMap RemarkD.cells = rl at HC1 HMK
      generalize xs[k].Cues.length = m1 at c1 hsk HC0 HMK
      generalize xs[k].Remarks.length = m2 at c2 hsk HC1 HMK
      generalize xs[k].Day = dy at c0 HMK
      obtain ⟨hs1, hs2⟩ := hsk
      go_wp2_with fail
      have HIW := hide (show IsX w (xt w p) from ⟨p, rfl⟩)
      generalize xt w p = V at HI HF HB HIW ⊢
      have hVs : w.heap.size < V.heap.size := HB.out.lt
      generalize hV2 : World.alloc V _ = V2
      have hK : Blk V2 V.heap.size 31 #[.int .i64 dy, .slice qC m1 qCc, .slice qR m2 qRc] := by rw [← hV2]; exact Blk.new _ _ _
      have HX2 := hide (show IsX V V2 by rw [← hV2]; exact (IsX.refl V).alloc _)
      have e0 := hK.cell 0
      have e1 := hK.cell 1
      have e2 := hK.cell 2
      simp at e0 e1 e2
      have hbb := hK.lt
      have n0 := World.new_ne V2 ⟨V.heap.size, 0, none⟩ e0
      have n1 := World.new_ne V2 ⟨V.heap.size, 1, none⟩ e1
      have n2 := World.new_ne V2 ⟨V.heap.size, 2, none⟩ e2
      have HSW := hide (fun (W : World) (hW : IsX V2 W) => show W.cell? ⟨V.heap.size, 0, none⟩ = some (.int .i64 dy) ∧ W.cell? ⟨V.heap.size, 1, none⟩ = some (.slice qC m1 qCc) ∧ W.cell? ⟨V.heap.size, 2, none⟩ = some (.slice qR m2 qRc) from ⟨keep hW hbb e0, keep hW hbb e1, keep hW hbb e2⟩)
      clear hK hV2 c0 c1 c2
      have hF1 : w.heap.size ≠ V.heap.size := by omega
      go_region_held3 (fun W => W.cell? ⟨V.heap.size, 0, none⟩ = some (.int .i64 dy) ∧ W.cell? ⟨V.heap.size, 1, none⟩ = some (.slice qC m1 qCc) ∧ W.cell? ⟨V.heap.size, 2, none⟩ = some (.slice qR m2 qRc)) (first | go_keep | (exact HSW.out _ HX3.out) | (exact HSW.out _ HX4.out) | (refine ⟨?_, ?_, ?_⟩ <;> (rw [World.cell?_setCell_far _ _ _ _ hF1, World.cell?_setCell_far _ _ _ _ hF1, World.cell?_setCell_far _ _ _ _ hF1]; assumption)))
        ((first
          | (go_at_call 31; refine (HC0.out _ (HIW.out.trans (HX2.out.trans (IsX.drew (IsX.refl _))))).mono ?_; rintro e w3 ⟨A1, k1, rfl, hO1, hx3⟩
             have HO1 := hide hO1
             have HX3 : Hid (IsX V2 w3) := hide ((IsX.refl V2).drew.trans hx3)
             clear hO1 hx3)
          | (go_at_call 32; refine (HC1.out _ (HIW.out.trans (HX2.out.trans HX3.out))).mono ?_; rintro e w4 ⟨A2, k2, rfl, hO2, hx4⟩
             have HO2 := hide hO2
             have HO1' := hide (own_x HO1.out hx4)
             have HX4 : Hid (IsX V2 w4) := hide (HX3.out.trans hx4)
             have HB4 := hide (HB.out.x (HX2.out.trans HX4.out))
             obtain ⟨v0, s0⟩ := HB4.out.has (i := k * 3) (by rw [HCS.out]; omega)
             obtain ⟨v1, s1⟩ := HB4.out.has (i := k * 3 + 1) (by rw [HCS.out]; omega)
             obtain ⟨v2, s2⟩ := HB4.out.has (i := k * 3 + 2) (by rw [HCS.out]; omega)
             have z0 := HB4.out.frozen (k * 3)
             have z1 := HB4.out.frozen (k * 3 + 1)
             have z2 := HB4.out.frozen (k * 3 + 2)
             obtain ⟨k0', k1', k2'⟩ := HSW.out _ HX4.out
             clear hO2 hx4)))
      clear e0 e1 e2 n0 n1 n2
      have HW4 := hide (HIW.out.trans (HX2.out.trans HX4.out))
      have HST := hide (FillN.step (cells := RunE.cells) (x := (⟨.int .i64 dy, A1, m1, k1, cl, A2, m2, k2, rl⟩ : RunE)) HB4.out HCS.out HCU.out HEL.out hlt RunE.cells_len HW4.out (Nat.le_refl _))
      have HIN := hide (((HI.out.snoc (e := (⟨.int .i64 dy, A1, m1, k1, cl, A2, m2, k2, rl⟩ : RunE)) (HX2.out.trans HX4.out) (by omega) (own_mono HO1'.out HX2.out.size) (own_mono HO2.out (Nat.le_trans HX2.out.size HX3.out.size))).under (gr_putAll (RunE.cells ⟨.int .i64 dy, A1, m1, k1, cl, A2, m2, k2, rl⟩) (k * 3) w4) (Nat.lt_succ_self w.heap.size)))
      clear s0 s1 s2 z0 z1 z2
      go_wp2_with fail
      go_roundw
      case rel => exact ⟨k + 1, _, by omega, by go_num, HIN, hide (HOF.out _ (HMK.out A1 A2 k1 k2)), HST⟩
      case measure => simp [intOf]; omega
    · obtain rfl : k = n := by omega
      have HT := hide (show xs.take k = xs by rw [HN.out]; exact List.take_length)
      have HEL := hide (show es.length = k by rw [HO.out.len, HT.out, HN.out])
      have HD := hide (HF.out.done HEL.out RunE.cells_len)
      obtain ⟨⟨p, rfl⟩, cur, hB, hcs, hcur⟩ := HF.out
      clear hB hcs hcur
      go_wp2_with fail
      go_ret
      refine ⟨some ⟨w.heap.size, 0, none⟩, k, es, rfl, ⟨?_, fun e he => own_mono (HI.out.cue e he) (Nat.le_succ _), fun e he => own_mono (HI.out.rem e he) (Nat.le_succ _), HI.out.sepC, HI.out.sepR⟩, HT.out ▸ HO.out, HD.out.2⟩
      have h := HD.out.1.own (base := w.heap.size) (k := 3) (n := es.length) (Nat.le_refl _) (by unfold maxLen; have := HEL.out; omega) (by rw [List.size_toArray, flat_len RunE.cells_len])
      rw [HEL.out] at h ⊢
      exact h
end Go.Proofs.Ytegehdhdlljikaa
