/- The reference's search (l22Search): the recursion. Conditions: those of the theorems alone. -/
import Derived.Test.YtlbcoplpdnidnaaRichNode
namespace Go.Proofs.Ytlbcoplpdnidnaa
set_option linter.unusedVariables false
open Go.RowKit

def richAt (X B : Nat) (vl : Value) (lost : Int) (vr : Value) (bud : Int) (ch : List Int) (g : Got) (w : World) : Prop := At 138 X B 2 (cutC vl lost vr bud) Got.best intC ch g w
def richQ (X B : Nat) (vl : Value) (lost : Int) (vr : Value) (bud : Int) (ch : List Int) (g : Got) (w : World) (e : Ending) (w' : World) : Prop := e = .returned (.tuple #[]) ∧ Fr B X w w' ∧ richAt X B vl lost vr bud ch g w'
def richRest (xs : List OfferD) : List Int := (List.range (xs.length + 1)).map fun i => sumWor (xs.drop i)
theorem richRest_at (xs : List OfferD) {i : Nat} (h : i ≤ xs.length) : (richRest xs)[i]? = some (sumWor (xs.drop i)) := by
  simp [richRest, List.getElem?_map, List.getElem?_range (show i < xs.length + 1 by omega)]

set_option maxHeartbeats 1600000 in
set_option maxRecDepth 100000 in
theorem c_richLeaf (A : Option Addr) (c n : Nat) (xs : List OfferD) (lost : Int) (vr : Value) (bud : Int) (X B : Nat) (ch : List Int) (a : Int) (g : Got) (w : World)
    (hn : n ≤ 16) (hXB : X < B) (hBw : B ≤ w.heap.size) (hch : ch.length ≤ 16) (hat : richAt X B (.slice A n c) lost vr bud ch g w) :
    Calls Try.prog 88 #[.pointer (some ⟨X, 0, none⟩), .int .i64 (n : Int), .int .i64 a] w (richQ X B (.slice A n c) lost vr bud ch (hunt (richHunt xs lost) 0 ch a 0 g) w) := by
  obtain ⟨Ac, cc, Ab, cb, hX, hC, hB, hAp⟩ := id hat
  have HAT := hide hat
  clear hat
  have hlb := hX.lt
  have HX := hide hX
  have HC := hide hC
  have HB := hide hB
  have HAp := hide hAp
  have d0 := hX.cell 0
  have d3 := hX.cell 3
  have e5 := hX.cell 5
  have e4 := hX.cell 4
  simp [cutC] at d0 d3 e4 e5
  have f5 := hX.frozen 5
  have f4 := hX.frozen 4
  clear hX hC hB hAp
  by_cases hl : g.most < a
  · have HR := hide (show hunt (richHunt xs lost) 0 ch a 0 g = ⟨ch, a, g.left, g.full⟩ by simp [hunt, richHunt, hl])
    generalize hmo : g.most = mo at e5 hl
    have HMO := hide hmo
    clear hmo
    go_enter Try.func88, Try.ntmps88
    go_wp2_with fail
    obtain ⟨w1, hw1⟩ : ∃ w1, w1 = w.setCell ⟨X, 5, none⟩ (.int .i64 a) := ⟨_, rfl⟩
    rw [← hw1]
    have HB1 := hide (hw1 ▸ own_set_other HB.out 5 (.int .i64 a) hXB : w1.ownsRow B _ _ _ _ _)
    have HC1 := hide (hw1 ▸ own_set_other HC.out 5 (.int .i64 a) hXB : w1.ownsRow B _ _ _ _ _)
    have HX1 := hide (hw1 ▸ HX.out.set_ 5 (.int .i64 a) : Blk w1 X _ _)
    have HF1 : Hid (Fr B X w w1) := hide (hw1 ▸ Fr.of_set w ⟨X, 5, none⟩ (.int .i64 a) (.inl rfl))
    have hsz : w1.heap.size = w.heap.size := by rw [hw1]; simp [World.setCell]
    have HS1 := hide hsz
    have g3 : w1.cell? ⟨X, 3, none⟩ = some (.slice Ac ch.length cc) := (HX1.out.cell 3).trans (by simp [cutC])
    have g4 := HX1.out.cell 4
    simp [cutC] at g4
    have f4' := HX1.out.frozen 4
    have hlb1 := HX1.out.lt
    clear hsz hw1 d0 d3 e4 e5 f4 f5
    go_wp2_with fail
    refine (c_l00Own Ac cc ch w1 (by omega) (Own.rd (cells := intC) (k := 1) (by omega) intC_len HC1.out rfl)).mono ?_
    rintro e w2 ⟨A', c', rfl, hO, hx⟩
    have HX2 := hide (HX1.out.x hx)
    have HC2 := hide (own_x' HC1.out hx)
    have HO := hide hO
    have HAP := hide (apart_new HC1.out hO)
    have HFX := hide hx
    have g4 := HX2.out.cell 4
    simp [cutC] at g4
    have f4' := HX2.out.frozen 4
    have hlb2 := HX2.out.lt
    clear hO hx
    go_wp2_with fail
    (try simp only [Exit.inBlock, Exit.then]); refine bodyPost_ret (results_none rfl _ _ _) rfl ?_
    have hB1 : B ≤ w1.heap.size := by have := HS1.out; omega
    refine ⟨rfl, (Fr.x HF1.out HFX.out hBw).set _ _ (.inl rfl), ?_⟩
    rw [HR.out]
    refine ⟨Ac, cc, A', c', ?_, own_set_other HC2.out 4 _ hXB, own_set_other (row_le' HO.out hB1) 4 _ hXB, HAP.out⟩
    exact HX2.out.set_ 4 _
  · have HR := hide (show hunt (richHunt xs lost) 0 ch a 0 g = g by simp [hunt, richHunt, hl])
    generalize hmo : g.most = mo at e5 hl
    have HMO := hide hmo
    clear hmo
    go_enter Try.func88, Try.ntmps88
    go_wp2_with fail
    (try simp only [Exit.inBlock, Exit.then]); refine bodyPost_ret (results_none rfl _ _ _) rfl ?_
    exact ⟨rfl, Fr.refl _ _ _, by rw [HR.out]; exact HAT.out⟩

/-- what a call of the search is given -/
structure richIn (xs : List OfferD) (A RA : Option Addr) (c n rc : Nat) (lost bud : Int) (X B i : Nat) (ch : List Int) (a : Int) (g : Got) (w : World) : Prop where
  XB : X < B
  Bw : B ≤ w.heap.size
  bud20 : bud ≤ 20000
  left : (g.left : Int) ≤ bud
  chl : ch.length ≤ i
  a0 : 0 ≤ a
  a1 : a ≤ i * 10000
  chs : ∀ t ∈ ch, 0 ≤ t ∧ t < (i : Int)
  rdA : Rd OfferD.cells 5 w A xs
  Ao : xs = [] ∨ Out B X A
  rdR : Rd intC 1 w RA (richRest xs)
  Ro : Out B X RA
  at_ : richAt X B (.slice A n c) lost (.slice RA (n + 1) rc) bud ch g w

set_option maxHeartbeats 3200000 in
set_option maxRecDepth 100000 in
theorem c_richRun (A RA : Option Addr) (c n rc : Nat) (xs : List OfferD) (hnn : n = xs.length) (hv : offersB xs = true) (lost bud : Int) (hlo : 0 ≤ lost ∧ lost ≤ 240) (X B : Nat) : ∀ (r i : Nat) (iv : Int) (ch : List Int) (a : Int) (g : Got) (w : World), iv = (i : Int) → i + r = n →
    richIn xs A RA c n rc lost bud X B i ch a g w →
    Calls Try.prog 88 #[.pointer (some ⟨X, 0, none⟩), .int .i64 iv, .int .i64 a] w (richQ X B (.slice A n c) lost (.slice RA (n + 1) rc) bud ch (hunt (richHunt xs lost) r ch a 0 g) w) := by
  obtain ⟨hn, hok⟩ := offersB_ok hv
  rw [← hnn] at hn
  have HV := hide hv
  have HOK := hide hok
  have HN := hide hnn
  clear hv hok hnn
  intro r
  induction r with
  | zero =>
    intro i iv ch a g w hiv hi h
    subst hiv
    obtain rfl : i = n := by omega
    exact c_richLeaf A c i xs lost _ bud X B ch a g w hn h.XB h.Bw (by have := h.chl; omega) h.at_
  | succ r ih =>
    intro i iv ch a g w hiv hi h
    subst hiv
    have IH := hide ih
    clear ih
    have hlt : i < n := by omega
    have hltx : i < xs.length := HN.out ▸ hlt
    have HI := hide (show (richHunt xs lost).n - (r + 1) = i by simp only [richHunt]; rw [← HN.out]; omega)
    have HIR := hide hi
    clear hi
    obtain ⟨x2, x3⟩ := HOK.out _ (List.getElem_mem hltx)
    have H := hide h
    obtain ⟨hXB, hBw, hbud, hleft, hchl, ha0, ha1, hchs, hA, hAo, hR, hRo, hat⟩ := h
    have hAo := hAo.resolve_left (by intro e; rw [e] at hltx; simp at hltx)
    obtain ⟨Ac, cc, Ab, cb, hX, hC, hB, hAp⟩ := hat
    obtain ⟨ab, aoff, rfl, hab, k0, k1, k2, k3, k4⟩ := OfferD.rd hA (show xs[i]? = some xs[i] from List.getElem?_eq_getElem _)
    obtain ⟨rb, roff, rfl, hrb, s0⟩ := int_rd hR (richRest_at xs (show i ≤ xs.length by omega))
    obtain ⟨rb', roff', e, _, s1⟩ := int_rd hR (richRest_at xs (show i + 1 ≤ xs.length by omega))
    injection e with e
    injection e with e1 e2
    subst e1 e2
    have HS := hide (sumWor_drop xs i hltx)
    have HB0 := sumWor_bd (xs.drop i) (fun x hx => by have := HOK.out x (List.mem_of_mem_drop hx); omega)
    have HB1 := sumWor_bd (xs.drop (i + 1)) (fun x hx => by have := HOK.out x (List.mem_of_mem_drop hx); omega)
    have hl0 : (xs.drop i).length ≤ 16 := by simp; rw [← HN.out]; omega
    have hl1 : (xs.drop (i + 1)).length ≤ 16 := by simp; rw [← HN.out]; omega
    obtain ⟨q00, q01⟩ := HB0
    obtain ⟨q10, q11⟩ := HB1
    generalize hs : sumWor (xs.drop i) = S0 at s0 q00 q01
    generalize hs' : sumWor (xs.drop (i + 1)) = S1 at s1 q10 q11
    have HS0 := hide hs
    have HS1 := hide hs'
    have HA := hide hA
    clear hs hs' hA hR
    generalize hx : xs[i] = x at x2 x3 k0 k1 k2 k3 k4
    have HX0 := hide hx
    clear hx
    have hlb := hX.lt
    have HX := hide hX
    have d0 := hX.cell 0
    have d1 := hX.cell 1
    have d2 := hX.cell 2
    have d3 := hX.cell 3
    simp [cutC] at d0 d1 d2 d3
    have HCw := hide hC
    have HBw := hide hB
    have HAp := hide hAp
    clear hX hC hB hAp
    have hir : (i : Int) < (n : Int) + 1 := by omega
    have hir2 : (i : Int) < ((n + 1 : Nat) : Int) := by omega
    have HG1 := hide (show hunt (richHunt xs lost) (r + 1) ch a 0 g = hunt2 (richHunt xs lost) r i ch a 0 (hunt1 (richHunt xs lost) r i ch a 0 g) from hunt_eq HI.out)
    have HL1 := hide (show a + (richHunt xs lost).g1 i = a + x.Worth by simp only [richHunt]; rw [offerAt_eq hltx, HX0.out])
    have HL2 := hide (show (0 : Int) + (richHunt xs lost).g2 i = 0 from rfl)
    have HLE : Hid (∀ g1 : Got, (richHunt xs lost).leaves i a 0 g1.most = decide (g1.most < a + S1)) := hide (fun g1 => by simp only [richHunt]; rw [HS1.out])
    go_enter Try.func88, Try.ntmps88
    have HKP := hide (fun (V : World) (hV : IsX w V) => show V.cell? ⟨X, 0, none⟩ = some (.slice (some ⟨ab, aoff, none⟩) n c) ∧ V.cell? ⟨X, 1, none⟩ = some (.int .i64 lost) ∧ V.cell? ⟨X, 2, none⟩ = some (.slice (some ⟨rb, roff, none⟩) (n + 1) rc) ∧ V.cell? ⟨X, 3, none⟩ = some (.slice Ac ch.length cc) ∧ V.cell? ⟨rb, roff + i, none⟩ = some (.int .i64 S0) from ⟨keep hV hlb d0, keep hV hlb d1, keep hV hlb d2, keep hV hlb d3, keep hV hrb s0⟩)
    obtain ⟨fr, hfr⟩ : ∃ fr, fr = !(ch.any (clashAt xs lost i)) := ⟨_, rfl⟩
    have HFREE := hide (fun (V : World) (hV : IsX w V) => c_l22Free (some ⟨ab, aoff, none⟩) c xs lost Ac cc ch i V HV.out hlo hltx hchs (by omega) (HA.out.x hV) ((Own.rd (cells := intC) (k := 1) (by omega) intC_len HCw.out rfl).x hV))
    rw [← hfr, ← HN.out] at HFREE
    have HNODE := hide (fun (V : World) (hV : IsX w V) => c_richNode X (.slice (some ⟨ab, aoff, none⟩) n c) (.slice (some ⟨rb, roff, none⟩) (n + 1) rc) (.slice Ac ch.length cc) (.slice Ab g.best.length cb) lost bud (a + S0) g _ V (HX.out.x hV) hleft hbud rfl)
    obtain ⟨t, htt⟩ : ∃ t, t = (fr && decide (g.most < a + S0)) := ⟨_, rfl⟩
    have HT := hide (show (richHunt xs lost).takes i a 0 ch g.most = t by simp only [richHunt]; rw [HS0.out, htt, hfr])
    have HKN := hide (fun (V V' : World) (hV : IsX w V) (hg : V.grownBy V' (some X)) (t : Bool) (hX : Blk V' X 138 (cutC (.slice (some ⟨ab, aoff, none⟩) n c) lost (.slice (some ⟨rb, roff, none⟩) (n + 1) rc) bud (.slice Ac ch.length cc) (.slice Ab g.best.length cb) (g.nd t))) => show V'.cell? ⟨X, 0, none⟩ = some (.slice (some ⟨ab, aoff, none⟩) n c) ∧ V'.cell? ⟨X, 1, none⟩ = some (.int .i64 lost) ∧ V'.cell? ⟨X, 2, none⟩ = some (.slice (some ⟨rb, roff, none⟩) (n + 1) rc) ∧ V'.cell? ⟨X, 3, none⟩ = some (.slice Ac ch.length cc) ∧ V'.cell? ⟨rb, roff + i, none⟩ = some (.int .i64 S0) from ⟨(hX.cell 0).trans (by simp [cutC]), (hX.cell 1).trans (by simp [cutC]), (hX.cell 2).trans (by simp [cutC]), (hX.cell 3).trans (by simp [cutC]), (World.cell?_of_block (a := ⟨rb, roff + i, none⟩) (hg.block rb (Nat.lt_of_lt_of_le hrb hV.size) (fun e => by injection e with e; exact (hRo rb roff rfl).2 e))).trans (keep hV hrb s0)⟩)
    clear s1
    go_wp2_with fail
    go_cut [57] from 31 (fun s57 wc => s57 = .bool (g.may t) ∧ w.grownBy wc (some X) ∧ Blk wc X 138 (cutC (.slice (some ⟨ab, aoff, none⟩) n c) lost (.slice (some ⟨rb, roff, none⟩) (n + 1) rc) bud (.slice Ac ch.length cc) (.slice Ab g.best.length cb) (g.nd t)))
    case first =>
      have hw2 : IntKind.i64.wrap (a + S0) = a + S0 := IntWalk.i64_in _ (by omega)
      have HFR := hide hfr
      have HTE := hide htt
      clear hfr htt k0 k1 k2 k3 k4
      cases fr
      · have HTF := hide (show t = false by rw [HTE.out]; rfl)
        refine wp_region_x (by kernel_rfl) (by kernel_rfl) ?_
        repeat (go_big_quiet_step ((go_at_call 144; exact call_x (HFREE.out _ ⟨_, rfl⟩))))
        refine wpQuiet_nil ?_
        rintro _ ⟨q, rfl⟩
        go_wp2_with fail
        go_meet
        refine ⟨by rw [HTF.out]; simp [Got.may], gr_x (gr_refl _ _) ⟨q, rfl⟩, ?_⟩
        rw [HTF.out]
        simpa [Got.nd, Got.may, Got.no] using HX.out.x (w' := xt w q) ⟨q, rfl⟩
      · have HTQ := hide (show decide (g.most < a + S0) = t by rw [HTE.out]; rfl)
        go_region_held3 (fun V => V.cell? ⟨X, 0, none⟩ = some (.slice (some ⟨ab, aoff, none⟩) n c) ∧ V.cell? ⟨X, 1, none⟩ = some (.int .i64 lost) ∧ V.cell? ⟨X, 2, none⟩ = some (.slice (some ⟨rb, roff, none⟩) (n + 1) rc) ∧ V.cell? ⟨X, 3, none⟩ = some (.slice Ac ch.length cc) ∧ V.cell? ⟨rb, roff + i, none⟩ = some (.int .i64 S0))
          (first | go_keep | (exact HKP.out _ (IsX.drew (IsX.refl _))) | (exact HKP.out _ ((IsX.drew (IsX.refl _)).trans hxf)) | (exact HKN.out _ _ ((IsX.drew (IsX.refl _)).trans hxf) hg2 _ hX2))
          ((first
            | (go_at_call 144; refine (HFREE.out _ (IsX.drew (IsX.refl _))).mono ?_; rintro e wf ⟨rfl, hxf⟩)
            | (go_at_call 145; refine (HNODE.out _ ((IsX.drew (IsX.refl _)).trans hxf)).mono ?_; rintro e w2 ⟨rfl, hg2, hX2⟩)))
        go_wp2_with fail
        go_meet
        exact ⟨by rw [HTQ.out], gr_trans (gr_x (gr_refl w (some X)) ((IsX.drew (IsX.refl _)).trans hxf)) hg2, by rw [HTQ.out] at hX2; exact hX2⟩
    obtain ⟨rfl, hg2, hX2⟩ := hcut
    obtain ⟨w2, hw2⟩ : ∃ w2, w2 = wc := ⟨_, rfl⟩
    rw [← hw2] at hg2 hX2 ⊢
    clear hw2 d0 d1 d2 d3 k0 k1 k2 k3 k4
    have HX2 := hide hX2
    have HZ3 : Hid (w.grownBy w2 (some X)) := hide hg2
    have HTT := hide htt
    clear hX2 hg2 htt
    generalize hgg : hunt1 (richHunt xs lost) r i ch a 0 g = G1 at HG1
    have HGG := hide hgg
    clear hgg
    go_upto_if 57 with fail
    go_cut [57] from 58 (fun _ wc => Fr B X w wc ∧ richAt X B (.slice (some ⟨ab, aoff, none⟩) n c) lost (.slice (some ⟨rb, roff, none⟩) (n + 1) rc) bud ch G1 wc)
    case first =>
      cases hm : g.may t
      · have HM := hide hm
        clear hm
        go_wp2_with fail
        go_meet
        refine ⟨Fr.of_gr HZ3.out hBw (fun k hk => .inr (by injection hk with hk; exact hk.symm)), ?_⟩
        rw [← HGG.out, hunt1_no (by rw [HT.out]; exact HM.out), HT.out]
        refine ⟨Ac, cc, Ab, cb, ?_, own_grX HCw.out HZ3.out hXB, own_grX HBw.out HZ3.out hXB, HAp.out⟩
        have := HX2.out
        rw [Got.nd, HM.out] at this
        exact this
      · obtain ⟨hm1, hm2, hm3⟩ := may_true hm
        have HM := hide hm
        have HM3 := hide hm3
        have HND := hide (show g.nd t = g.pay by rw [Got.nd, HM.out]; rfl)
        have HM1 := hide hm1
        have HM2 := hide hm2
        clear hm hm1 hm2 hm3
        have HX2' := hide (HND.out ▸ HX2.out : Blk w2 X 138 (cutC (.slice (some ⟨ab, aoff, none⟩) n c) lost (.slice (some ⟨rb, roff, none⟩) (n + 1) rc) bud (.slice Ac ch.length cc) (.slice Ab g.best.length cb) g.pay))
        have HC2 := hide (own_grX HCw.out HZ3.out hXB)
        have HB2 := hide (own_grX HBw.out HZ3.out hXB)
        have HII := hide (info_parts Int64_info)
        have d3 := HX2'.out.cell 3
        simp [cutC] at d3
        have f3 := HX2'.out.frozen 3
        have hlb2 := HX2'.out.lt
        generalize hm : ch.length = m at hchl d3
        have HCM := hide hm
        clear hm
        have hne : ∀ j, (Value.slice Ac m cc).ownBlock = some j → B ≤ j ∧ j < w.heap.size := fun j hj => HCw.out.lt j (by rw [HCM.out]; exact hj)
        have HNE := hide hne
        clear hne
        go_wp2_with (at_builtin; obtain ⟨i0, hi0, hz0, hz1, hz2⟩ := HII.out; refine wpList_append_any _ rfl (.tmp 62) (.tmp 64) _ rfl B 2 i0 _ 1 8 Try.underlying22 hi0 hz0 hz1 hz2 rfl (by omega) (.slice Ac m cc) m (ch.flatMap intC) rfl (HCM.out ▸ HC2.out.alloc _) _ (some ⟨w2.heap.size, 0, none⟩) 1 1 [.int .i64 (i : Int)] rfl (one_readsZ w2 2 i) (one_oneZ i) (by simp only [maxLen]; omega) (by omega) (by have := HZ3.out.size; simp; omega) ?_; clear hi0 hz0 hz1 hz2; intro v1 w3 hown1 hg1 hat1; obtain ⟨A1, c1, rfl⟩ := own_form hown1; have HC3 := hide hown1; have HG3 := hide hg1; have HAT1 := hide hat1; have HX3 := hide (blk_app HX2'.out hg1 (fun j hj => by have := HNE.out j hj; omega)); have hf3 : Fr B X w w3 := (((Fr.of_gr HZ3.out hBw (fun k hk => .inr (by injection hk with hk; exact hk.symm))).x ((IsX.refl w2).alloc _) hBw).gr hg1 hBw (fun k hk => .inl (HNE.out k hk).1)); obtain ⟨ab', aoff', e, hab', k0, k1, k2, k3, k4⟩ := OfferD.rd (H.out.rdA.fr hAo hf3) (show xs[i]? = some xs[i] from List.getElem?_eq_getElem _); injection e with e; injection e with e1 e2; subst e1 e2; rw [HX0.out] at k0 k1 k2 k3 k4; clear hf3 k0 k1 k2 k3; have hnx : ab ≠ X := (hAo ab aoff rfl).2; clear hown1 hg1 hat1 d3 f3; have d3 := HX3.out.cell 3; have d0 := HX3.out.cell 0; simp [cutC] at d0 d3; have f3 := HX3.out.frozen 3; have hlb3 := HX3.out.lt; have hkne : w.heap.size ≠ X := (by omega))
        have HF4 : Hid (Fr B X w (w3.setCell ⟨X, 3, none⟩ (.slice A1 (m + 1) c1))) := hide (((Fr.of_gr HZ3.out hBw (fun k hk => .inr (by injection hk with hk; exact hk.symm))).x ((IsX.refl w2).alloc _) hBw |>.gr HG3.out hBw (fun k hk => .inl (HNE.out k hk).1)).set _ _ (.inl rfl))
        obtain ⟨w4, hw4⟩ : ∃ w4, w4 = w3.setCell ⟨X, 3, none⟩ (.slice A1 (m + 1) c1) := ⟨_, rfl⟩
        have HX4 := hide (HX3.out.set_ 3 (.slice A1 (m + 1) c1))
        have HC4 := hide (own_set_other HC3.out 3 (.slice A1 (m + 1) c1) hXB)
        have HB4 := hide (own_set_other (own_app_other HB2.out (HCM.out ▸ HAp.out) HG3.out) 3 (.slice A1 (m + 1) c1) hXB)
        have HAP4 := hide (apart_app (HCM.out ▸ HAp.out) (HB2.out.alloc _) HAT1.out)
        rw [← hw4] at HF4 HX4 HC4 HB4 ⊢
        clear hw4 d3 d0 f3 k4 hnx hkne HX3 HC3 HG3 HAT1
        have HIN : Hid (richIn xs (some ⟨ab, aoff, none⟩) (some ⟨rb, roff, none⟩) c n rc lost bud X B (i + 1) (ch ++ [(i : Int)]) (a + x.Worth)  g.pay w4) := hide {
          XB := hXB
          Bw := Nat.le_trans hBw HF4.out.size
          bud20 := hbud
          left := by simp only [Got.pay]; omega
          chl := by rw [intC_snoc HCM.out]; omega
          a0 := by omega
          a1 := by omega
          chs := fun t ht => by
            rcases List.mem_append.1 ht with h1 | h1
            · have := hchs t h1; omega
            · simp at h1; omega
          rdA := H.out.rdA.fr hAo HF4.out
          Ao := .inr hAo
          rdR := H.out.rdR.fr hRo HF4.out
          Ro := hRo
          at_ := by
            refine ⟨A1, c1, Ab, cb, ?_, ?_, HB4.out, ?_⟩
            · rw [intC_snoc HCM.out]; exact HX4.out
            · rw [intC_snoc HCM.out, flat_snoc]; exact HC4.out
            · rw [intC_snoc HCM.out]; exact HAP4.out }
        refine (IH.out (i + 1) _ (ch ++ [(i : Int)]) (a + x.Worth)  g.pay w4 (by omega) (by have := HIR.out; omega) HIN.out).mono ?_
        rintro e w5 ⟨rfl, hfr5, A5, c5, Ab5, cb5, hX5, hC5, hB5, hAp5⟩
        have HH := hide (show hunt (richHunt xs lost) r (ch ++ [(i : Int)]) (a + x.Worth) 0 g.pay = G1 by rw [← HGG.out, hunt1_yes (by rw [HT.out]; exact HM.out), HL1.out, HL2.out])
        rw [HH.out] at hX5 hB5 hAp5
        rw [intC_snoc HCM.out] at hX5 hC5 hAp5
        rw [flat_snoc] at hC5
        have HF5 := hide (HF4.out.trans hfr5)
        have hcap : m + 1 ≤ c5 := own_cap hC5
        obtain ⟨g5, rfl, hg5, hg5'⟩ := own_some hC5 (by omega)
        have hcap' : (m : Int) ≤ (c5 : Int) := by omega
        have hm0 : (0 : Int) ≤ (m : Int) := by omega
        have HX5 := hide hX5
        have HC5 := hide hC5
        have HB5 := hide hB5
        have HAP5 := hide hAp5
        clear hX5 hC5 hB5 hAp5 hfr5
        have d3 := HX5.out.cell 3
        simp [cutC] at d3
        have f3 := HX5.out.frozen 3
        have hlb5 := HX5.out.lt
        have hwr : IntKind.i64.wrap (m : Int) = (m : Int) := IntWalk.i64_in _ (by omega)
        go_wp2_with fail
        go_still_tail 14, (by kernel_rfl)
        clear hwr
        change wpList _ _ _ _ _ w5.drew
        go_wp2_with fail
        go_meet
        refine ⟨(HF5.out.trans (Fr.of_x (IsX.drew (IsX.refl w5)) (Nat.le_trans hBw HF5.out.size))).set _ _ (.inl rfl), ?_⟩
        rw [← HCM.out] at *
        refine ⟨some ⟨g5, 0, none⟩, c5, Ab5, cb5, ?_, own_set_other (own_x' (own_pop HC5.out) (IsX.drew (IsX.refl w5))) 3 _ hXB, own_set_other (own_x' HB5.out (IsX.drew (IsX.refl w5))) 3 _ hXB, HAP5.out⟩
        exact (HX5.out.x (IsX.drew (IsX.refl w5))).set_ 3 _
    case rest =>
      obtain ⟨hfrw, Ad, cd, Ae, ce, hXd, hCd, hBd, hApd⟩ := hcut
      obtain ⟨rb', roff', e, hrb', s1⟩ := int_rd (H.out.rdR.fr hRo hfrw) (richRest_at xs (show i + 1 ≤ xs.length by omega))
      injection e with e
      injection e with e1 e2
      subst e1 e2
      rw [HS1.out] at s1
      have HLF := hide (show G1.left ≤ g.left by rw [← HGG.out]; exact hunt1_left (by have := HI.out; simp only [richHunt] at this ⊢; have := HIR.out; have := HN.out; omega))
      have hl2 : (G1.left : Int) ≤ bud := by have := HLF.out; omega
      have HXd := hide hXd
      have HCd := hide hCd
      have HBd := hide hBd
      have HAPd := hide hApd
      have HFd := hide hfrw
      have d2 := hXd.cell 2
      simp [cutC] at d2
      have hlbd := hXd.lt
      clear hXd hCd hBd hApd hfrw
      have hir3 : (i : Int) + 1 < (n : Int) + 1 := by omega
      have hir4 : ((i : Int) + 1).toNat = i + 1 := by omega
      go_upto_if 107 with (go_at_call 145; refine (c_richNode X _ _ _ _ lost bud _ G1 _ _ HXd.out hl2 hbud rfl).mono ?_; rintro e w6 ⟨rfl, hg6, hX6⟩)
      have HG6 := hide hg6
      have HT2 := hide (HLE.out G1)
      generalize htt : decide (G1.most < a + S1) = t2 at HT2 hX6 ⊢
      have HX6 := hide hX6
      have HTT2 := hide htt
      clear hX6 hg6 htt
      have HF6 := hide (HFd.out.gr HG6.out hBw (fun k hk => .inr (by injection hk with hk; exact hk.symm)))
      have HC6 := hide (own_grX HCd.out HG6.out hXB)
      have HB6 := hide (own_grX HBd.out HG6.out hXB)
      cases hm : G1.may t2
      · have HM := hide hm
        clear hm
        go_wp2_with fail
        go_end0
        refine ⟨rfl, HF6.out, ?_⟩
        rw [HG1.out, hunt2_no (by rw [HT2.out]; exact HM.out), HT2.out]
        refine ⟨Ad, cd, Ae, ce, ?_, HC6.out, HB6.out, HAPd.out⟩
        have := HX6.out
        rw [Got.nd, HM.out] at this
        exact this
      · obtain ⟨hm1, hm2, hm3⟩ := may_true hm
        have HM := hide hm
        have HM1 := hide hm1
        have HND := hide (show G1.nd t2 = G1.pay by rw [Got.nd, HM.out]; rfl)
        clear hm hm1 hm2 hm3
        have HIN : Hid (richIn xs (some ⟨ab, aoff, none⟩) (some ⟨rb, roff, none⟩) c n rc lost bud X B (i + 1) ch a G1.pay w6) := hide {
          XB := hXB
          Bw := Nat.le_trans hBw HF6.out.size
          bud20 := hbud
          left := by simp only [Got.pay]; omega
          chl := by omega
          a0 := ha0
          a1 := by omega
          chs := fun t ht => by have := hchs t ht; omega
          rdA := H.out.rdA.fr hAo HF6.out
          Ao := .inr hAo
          rdR := H.out.rdR.fr hRo HF6.out
          Ro := hRo
          at_ := ⟨Ad, cd, Ae, ce, by have h := HX6.out; rw [HND.out] at h; exact h, HC6.out, HB6.out, HAPd.out⟩ }
        go_wp2_with fail
        refine (IH.out (i + 1) _ ch a G1.pay w6 (by omega) (by have := HIR.out; omega) HIN.out).mono ?_
        rintro e w7 ⟨rfl, hfr7, hat7⟩
        have HH := hide (show hunt (richHunt xs lost) r ch a 0 G1.pay = hunt (richHunt xs lost) (r + 1) ch a 0 g by rw [HG1.out, hunt2_yes (by rw [HT2.out]; exact HM.out)])
        rw [HH.out] at hat7
        have HAT7 := hide hat7
        have HF7 := hide (HF6.out.trans hfr7)
        clear hat7 hfr7
        go_wp2_with fail
        go_end0
        exact ⟨rfl, HF7.out, HAT7.out⟩

end Go.Proofs.Ytlbcoplpdnidnaa
