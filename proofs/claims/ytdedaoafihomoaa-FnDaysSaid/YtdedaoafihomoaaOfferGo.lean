/- The program's search (offerSearch): the recursion. Conditions: those of the theorems alone. -/
import Derived.Test.YtdedaoafihomoaaRichLaw
import Derived.Test.YtdedaoafihomoaaIsDay
import Derived.Test.YtdedaoafihomoaaSearch
namespace Go.Proofs.Ytdedaoafihomoaa
set_option linter.unusedVariables false
open Go.RowKit

def osAt (X B : Nat) (A : Option Addr) (n c : Nat) (lost : Int) (ch : List Int) (g : Got) (w : World) : Prop := At 47 X B 2 (skC (.slice A n c) lost) Got.best intC ch g w
def osQ (X B : Nat) (A : Option Addr) (n c : Nat) (lost : Int) (ch : List Int) (g : Got) (w : World) (e : Ending) (w' : World) : Prop := e = .returned (.bool (!g.full)) ∧ Fr B X w w' ∧ (g.full = false → osAt X B A n c lost ch g w')

set_option maxHeartbeats 1600000 in
set_option maxRecDepth 100000 in
theorem c_osLeaf (A : Option Addr) (c n : Nat) (xs : List OfferD) (lost : Int) (X B : Nat) (ch : List Int) (a : Int) (g : Got) (w : World)
    (hn : n ≤ 16) (hXB : X < B) (hBw : B ≤ w.heap.size) (hch : ch.length ≤ 16) (hles : g.most < a) (hfu : g.full = false) (hat : osAt X B A n c lost ch g w) :
    Calls Try.prog 19 #[.pointer (some ⟨X, 0, none⟩), .int .i64 (n : Int), .int .i64 a] w (osQ X B A n c lost ch (hunt (richHunt xs lost) 0 ch a 0 g) w) := by
  obtain ⟨Ac, cc, Ab, cb, hX, hC, hB, hAp⟩ := hat
  have hlb := hX.lt
  have HX := hide hX
  have HC := hide hC
  have HB := hide hB
  have HAp := hide hAp
  have HFU := hide hfu
  have d0 := hX.cell 0
  have d2 := hX.cell 2
  simp [skC] at d0 d2
  clear hX hC hB hAp hfu
  have HR := hide (show hunt (richHunt xs lost) 0 ch a 0 g = ⟨ch, a, g.left, g.full⟩ by simp [hunt, richHunt, hles])
  clear hles
  go_enter Try.func19, Try.ntmps19
  go_wp2_with fail
  refine (c_Clone Ac cc ch w (by omega) (Own.rd (cells := intC) (k := 1) (by omega) intC_len HC.out rfl)).mono ?_
  rintro e w2 ⟨A', c', rfl, hO, hx⟩
  have HX2 := hide (HX.out.x hx)
  have HC2 := hide (own_x' HC.out hx)
  have HO := hide hO
  have HAP := hide (apart_new HC.out hO)
  have HFX := hide hx
  have g3 := HX2.out.cell 3
  have g4 := HX2.out.cell 4
  simp [skC] at g3 g4
  have f3' := HX2.out.frozen 3
  have f4' := HX2.out.frozen 4
  have hlb2 := HX2.out.lt
  clear hO hx
  go_wp2_with fail
  go_ret
  refine ⟨by rw [HR.out, HFU.out]; rfl, ((Fr.of_x HFX.out hBw).set ⟨X, 3, none⟩ _ (.inl rfl)).set ⟨X, 4, none⟩ _ (.inl rfl), fun _ => ?_⟩
  rw [HR.out]
  refine ⟨Ac, cc, A', c', ?_, own_set_other (own_set_other HC2.out 3 _ hXB) 4 _ hXB, own_set_other (own_set_other (row_le' HO.out hBw) 3 _ hXB) 4 _ hXB, HAP.out⟩
  exact (HX2.out.set_ 3 _).set_ 4 _

/-- what a call of the search is given -/
structure osIn (xs : List OfferD) (A : Option Addr) (n c : Nat) (lost : Int) (X B i : Nat) (ch : List Int) (a : Int) (g : Got) (w : World) : Prop where
  XB : X < B
  Bw : B ≤ w.heap.size
  left : (g.left : Int) ≤ 20000
  chl : ch.length ≤ i
  a0 : 0 ≤ a
  a1 : a ≤ i * 10000
  chs : ∀ t ∈ ch, 0 ≤ t ∧ t < (i : Int)
  les : g.most < a + sumWor (xs.drop i)
  fu : g.full = false
  rdA : Rd OfferD.cells 5 w A xs
  Ao : xs = [] ∨ Out B X A
  at_ : osAt X B A n c lost ch g w
set_option maxHeartbeats 3200000 in
set_option maxRecDepth 100000 in
theorem c_osGo (A : Option Addr) (n c : Nat) (hnc : n ≤ c) (xs : List OfferD) (hnn : n = xs.length) (hv : offersB xs = true) (lost : Int) (hlo : 0 ≤ lost ∧ lost ≤ 240) (X B : Nat) : ∀ (r i : Nat) (iv : Int) (ch : List Int) (a : Int) (g : Got) (w : World), iv = (i : Int) → i + r = n →
    osIn xs A n c lost X B i ch a g w →
    Calls Try.prog 19 #[.pointer (some ⟨X, 0, none⟩), .int .i64 iv, .int .i64 a] w (osQ X B A n c lost ch (hunt (richHunt xs lost) r ch a 0 g) w) := by
  obtain ⟨hn, hok⟩ := offersB_ok hv
  rw [← hnn] at hn
  have HV := hide hv
  have HOK := hide hok
  have HN := hide hnn
  clear hv hok hnn
  intro r
  induction r with
  | zero =>
    intro i iv ch a g w hiv hi h
    subst hiv
    obtain rfl : i = n := by omega
    exact c_osLeaf A c i xs lost X B ch a g w hn h.XB h.Bw (by have := h.chl; omega) (by have := h.les; rw [HN.out, List.drop_length] at this; simpa [sumWor] using this) h.fu h.at_
  | succ r ih =>
    intro i iv ch a g w hiv hi h
    subst hiv
    have IH := hide ih
    clear ih
    have hlt : i < n := by omega
    have hltx : i < xs.length := HN.out ▸ hlt
    have HI := hide (show (richHunt xs lost).n - (r + 1) = i by simp only [richHunt]; rw [← HN.out]; omega)
    have HIR := hide hi
    clear hi
    obtain ⟨x2, x3⟩ := HOK.out _ (List.getElem_mem hltx)
    obtain ⟨hXB, hBw, hleft, hchl, ha0, ha1, hchs, hles, hfu, hA, hAo, hat⟩ := h
    have hAo := hAo.resolve_left (by intro e; rw [e] at hltx; simp at hltx)
    obtain ⟨Ac, cc, Ab, cb, hX, hC, hB, hAp⟩ := hat
    obtain ⟨ab, aoff, rfl, hab, k0, k1, k2, k3, k4⟩ := OfferD.rd hA (show xs[i]? = some xs[i] from List.getElem?_eq_getElem _)
    have HS := hide (sumWor_drop xs i hltx)
    have HBD := hide (fun (zs : List OfferD) (hz : ∀ x ∈ zs, x ∈ xs) => sumWor_bd zs (fun x hx => by have := HOK.out x (hz x hx); omega))
    generalize hx : xs[i] = x at x2 x3 k0 k1 k2 k3 k4
    have HX0 := hide hx
    clear hx
    have HA := hide hA
    clear hA
    have hlb := hX.lt
    have HX := hide hX
    have HC := hide hC
    have HB := hide hB
    have HAp := hide hAp
    have HFU := hide hfu
    have HLES := hide hles
    have d0 := hX.cell 0
    have d1 := hX.cell 1
    have d2 := hX.cell 2
    have d4 := hX.cell 4
    have d5 := hX.cell 5
    simp [skC] at d0 d1 d2 d4 d5
    have f5 := hX.frozen 5
    clear hX hC hB hAp hfu hles
    have hin : ((i : Int) == (n : Int)) = false := by simp; omega
    have hi1 : (0 : Int) ≤ (i : Int) + 1 := by omega
    have hi2 : (i : Int) + 1 ≤ (n : Int) := by omega
    have hi3 : ((i : Int) + 1).toNat = i + 1 := by omega
    go_enter Try.func19, Try.ntmps19
    go_upto_region 5 with fail
    obtain ⟨m, hm⟩ : ∃ m, m = n - (i + 1) := ⟨_, rfl⟩
    have HM := hide hm
    clear hm
    go_cut [36, 37, 38] from 30 to 38 (fun s59 s60 s61 wc => wc = w ∧ s60 = .int .i64 (m : Int) ∧ s61 = .int .i64 0 ∧ ∃ AD cp, s59 = .slice AD m cp ∧ ∀ k, k < m → AD = some ⟨ab, aoff + (i + 1) * 5, none⟩)
    case first =>
      by_cases hlast : n = i + 1
      · have hms : m = 0 := by rw [HM.out, hlast]; omega
        subst hms
        by_cases hlc : c = i + 1
        · subst hlc
          subst hlast
          go_wp2_with fail
          go_meet
          exact ⟨rfl, by simp, rfl, some ⟨ab, aoff, none⟩, 0, by simp, fun k hk => absurd hk (by omega)⟩
        · subst hlast
          go_wp2_with fail
          go_meet
          exact ⟨rfl, by simp, rfl, some ⟨ab, aoff + (i + 1) * 5, none⟩, c - (i + 1), by simp, fun k hk => absurd hk (by omega)⟩
      · have hms := HM.out
        subst hms
        have hlc : ¬ c = i + 1 := by omega
        go_wp2_with fail
        go_meet
        exact ⟨rfl, by simp, rfl, _, _, rfl, fun k hk => rfl⟩
    case rest =>
      obtain ⟨hwc, rfl, rfl, AD, cp, rfl, hAD⟩ := hcut
      obtain rfl : w = wc := hwc.symm
      clear hwc
      have HAD := hide hAD
      clear hAD
      have hmn : m ≤ 16 := by have := HM.out; omega
      go_wp2_with fail
      go_loopw [7, 38] (fun sv iv wr => ∃ k : Nat, k ≤ m ∧ iv = .int .i64 k ∧ sv = .int .i64 (sumWor ((xs.drop (i + 1)).take k)) ∧ IsX w wr) (fun _ iv _ => m - (intOf iv).toNat)
      case atStart => exact ⟨0, Nat.zero_le _, rfl, by simp [sumWor], IsX.refl _⟩
      case round =>
        obtain ⟨k, hk, rfl, rfl, p, rfl⟩ := hrel
        by_cases hlt2 : k < m
        · have hkx : i + 1 + k < xs.length := by have := HM.out; have := HN.out; omega
          obtain ⟨b', off', e, hb', e0, e1, e2, e3, e4⟩ := OfferD.rd HA.out (show xs[i + 1 + k]? = some xs[i + 1 + k] from List.getElem?_eq_getElem _)
          injection e with e
          injection e with ee1 ee2
          subst ee1 ee2
          have HAk := HAD.out k hlt2
          subst HAk
          obtain ⟨y2, y3⟩ := HOK.out _ (List.getElem_mem hkx)
          have HS2 := hide (show sumWor ((xs.drop (i + 1)).take (k + 1)) = sumWor ((xs.drop (i + 1)).take k) + xs[i + 1 + k].Worth by
            rw [sumWor_take (xs.drop (i + 1)) k (by simp; omega), List.getElem_drop])
          have hbd := HBD.out ((xs.drop (i + 1)).take k) (fun x hx => List.mem_of_mem_drop (List.mem_of_mem_take hx))
          have hlk : ((xs.drop (i + 1)).take k).length ≤ k := List.length_take_le _ _
          obtain ⟨bd0, bd1⟩ := hbd
          rw [show aoff + (i + 1 + k) * 5 = aoff + (i + 1) * 5 + k * 5 by omega] at e0 e1 e2 e3 e4
          generalize xs[i + 1 + k] = y at e0 e1 e2 e3 e4 y2 y3 HS2
          generalize sumWor ((xs.drop (i + 1)).take k) = SK at bd0 bd1 HS2 ⊢
          clear d0 d1 d2 d4 d5 f5 k0 k1 k2 k3 k4
          go_wp2_with fail
          go_roundw
          case rel => exact ⟨k + 1, by omega, by go_num, by rw [HS2.out], IsX.alloc ⟨p, rfl⟩ _⟩
          case measure => simp [intOf]; omega
        · obtain rfl : k = m := by omega
          have hbd := HBD.out (xs.drop (i + 1)) (fun x hx => List.mem_of_mem_drop hx)
          have hl1 : (xs.drop (i + 1)).length ≤ 16 := by have := HN.out; simp; omega
          have hte : (xs.drop (i + 1)).take k = xs.drop (i + 1) := List.take_of_length_le (by have := HM.out; have := HN.out; simp; omega)
          rw [hte]
          obtain ⟨bd0, bd1⟩ := hbd
          generalize hs1 : sumWor (xs.drop (i + 1)) = S1 at bd0 bd1 HS ⊢
          have HS1 := hide hs1
          clear hs1 hte hlt2 HAD
          go_wp2_with fail
          have HX1 := hide (HX.out.x (w' := xt w p) ⟨p, rfl⟩)
          have HZ1 : Hid (IsX w (xt w p)) := hide ⟨p, rfl⟩
          have HA1 := hide (HA.out.x HZ1.out)
          have HC1 := hide (own_x' HC.out HZ1.out)
          clear d0 d1 d2 d4 d5 f5 k0 k1 k2 k3 k4
          generalize hwp : xt w p = w1 at HX1 HZ1 HA1 HC1 ⊢
          clear hwp
          obtain ⟨cl, hcl⟩ : ∃ cl, cl = ch.any (clashAt xs lost i) := ⟨_, rfl⟩
          have HCAL := hide (fun (V : World) (hV : IsX w1 V) => c_conflictsAny (some ⟨ab, aoff, none⟩) c xs Ac cc ch i lost V HV.out hlo hltx (fun t ht => by have := hchs t ht; have := HN.out; omega) (by omega) (HA1.out.x hV) ((Own.rd (cells := intC) (k := 1) (by omega) intC_len HC1.out rfl).x hV))
          rw [← hcl, ← HN.out] at HCAL
          obtain ⟨t, htt⟩ : ∃ t, t = (!cl && decide (g.most < a + x.Worth + S1)) := ⟨_, rfl⟩
          have HTT := hide htt
          have HCL := hide hcl
          clear htt hcl
          go_cut [81] from 55 (fun s72 wc2 => s72 = .bool t ∧ IsX w1 wc2)
          case first =>
            have d0 := HX1.out.cell 0
            have d1 := HX1.out.cell 1
            have d2 := HX1.out.cell 2
            have d4 := HX1.out.cell 4
            simp [skC] at d0 d1 d2 d4
            have hlb1 := HX1.out.lt
            generalize hmo : g.most = mo at d4 HTT
            have hw1 : IntKind.i64.wrap (a + x.Worth) = a + x.Worth := IntWalk.i64_in _ (by omega)
            have hw3 : IntKind.i64.wrap (a + x.Worth + S1) = a + x.Worth + S1 := IntWalk.i64_in _ (by omega)
            clear hmo
            cases hc2 : decide (a + x.Worth + S1 > mo)
            · have HT := hide (show t = false by rw [HTT.out]; simp at hc2 ⊢; intro _; omega)
              refine wp_region_x (by kernel_rfl) (by kernel_rfl) ?_
              repeat (go_big_quiet_step (fail))
              refine wpQuiet_nil ?_
              rintro _ ⟨q, rfl⟩
              go_wp2_with fail
              go_meet
              exact ⟨by rw [HT.out], ⟨q, rfl⟩⟩
            · have HT := hide (show t = !cl by rw [HTT.out]; simp at hc2 ⊢; intro _; omega)
              refine wp_region_x (by kernel_rfl) (by kernel_rfl) ?_
              repeat (go_big_quiet_step ((go_at_call 23; exact call_x (HCAL.out _ ⟨_, rfl⟩))))
              refine wpQuiet_nil ?_
              rintro _ ⟨q, rfl⟩
              go_wp2_with fail
              go_meet
              exact ⟨by rw [HT.out], ⟨q, rfl⟩⟩
          case rest =>
            obtain ⟨rfl, hx2⟩ := hcut
            have HX2 := hide (HX1.out.x hx2)
            have HZ2 := hide (HZ1.out.trans hx2)
            clear hx2
            have HT := hide (show (richHunt xs lost).takes i a 0 ch g.most = t by simp only [richHunt]; rw [HTT.out, HCL.out, HS.out, HX0.out, Int.add_assoc])
            have HTAK := hide (fun (h : t = true) => show g.most < a + x.Worth + S1 by have h1 := HTT.out; rw [h] at h1; simp at h1; exact h1.2)
            have HG1 := hide (show hunt (richHunt xs lost) (r + 1) ch a 0 g = hunt2 (richHunt xs lost) r i ch a 0 (hunt1 (richHunt xs lost) r i ch a 0 g) from hunt_eq HI.out)
            have HL1 := hide (show a + (richHunt xs lost).g1 i = a + x.Worth by simp only [richHunt]; rw [offerAt_eq hltx, HX0.out])
            have HL2 := hide (show (0 : Int) + (richHunt xs lost).g2 i = 0 from rfl)
            have HLE : Hid (∀ g1 : Got, (richHunt xs lost).leaves i a 0 g1.most = decide (g1.most < a + S1)) := hide (fun g1 => by simp only [richHunt]; rw [HS1.out])
            generalize hgg : hunt1 (richHunt xs lost) r i ch a 0 g = G1 at HG1
            have HGG := hide hgg
            clear hgg
            go_upto_if 81 with fail
            go_cut [6, 81] from 82 (fun _ _ wd => Fr B X w wd ∧ G1.full = false ∧ osAt X B (some ⟨ab, aoff, none⟩) n c lost ch G1 wd)
            case first =>
              cases t
              · have HGE := hide (show G1 = g by rw [← HGG.out, hunt1_no (by rw [HT.out]; rfl), HT.out, no_false])
                go_wp2_with fail
                go_meet
                exact ⟨Fr.of_x HZ2.out hBw, by rw [HGE.out]; exact HFU.out, by rw [HGE.out]; exact ⟨Ac, cc, Ab, cb, HX2.out, own_x' HC.out HZ2.out, own_x' HB.out HZ2.out, HAp.out⟩⟩
              · have HTK : Hid (g.most < a + x.Worth + S1) := hide (HTAK.out rfl)
                have d5 := HX2.out.cell 5
                simp [skC] at d5
                have f5 := HX2.out.frozen 5
                have hlb2 := HX2.out.lt
                by_cases hz : g.left = 0
                · have HGE := hide (show (hunt (richHunt xs lost) (r + 1) ch a 0 g).full = true by
                    rw [HG1.out]; refine hunt2_full ?_
                    rw [← HGG.out, hunt1_no (may_none hz), HT.out, no_zero hz rfl])
                  rw [hz] at d5
                  rw [show (((0 : Nat) : Int)) = 0 from rfl] at d5
                  clear hz
                  go_wp2_with fail
                  go_ret
                  exact ⟨by rw [HGE.out]; rfl, Fr.of_x HZ2.out hBw, fun h => by rw [HGE.out] at h; cases h⟩
                · have HM := hide (show g.may true = true by simp [Got.may, HFU.out, hz])
                  have hz0 : 0 < (g.left : Int) := by omega
                  have HZZ := hide hz
                  have hzb : ((g.left : Int) == 0) = false := by simp; exact hz
                  clear hz
                  have HC2 := hide (own_x' HC.out HZ2.out)
                  have HB2 := hide (own_x' HB.out HZ2.out)
                  have HII := hide (info_parts Int64_info)
                  have hpy : (g.left : Int) - 1 = ((g.pay.left : Nat) : Int) := by simp only [Got.pay]; omega
                  have HPY := hide hpy
                  clear hpy
                  go_upto_region 15 with fail
                  have HX2' := hide (HX2.out.set_ 5 (.int .i64 ((g.left : Int) - 1)))
                  have HC2' := hide (own_set_other HC2.out 5 (.int .i64 ((g.left : Int) - 1)) hXB)
                  have HB2' := hide (own_set_other HB2.out 5 (.int .i64 ((g.left : Int) - 1)) hXB)
                  have HF2 := hide ((Fr.of_x HZ2.out hBw).set ⟨X, 5, none⟩ (.int .i64 ((g.left : Int) - 1)) (.inl rfl) : Fr B X w _)
                  generalize wc.setCell ⟨X, 5, none⟩ (.int .i64 ((g.left : Int) - 1)) = wx at HX2' HC2' HB2' HF2 ⊢
                  have d2 := HX2'.out.cell 2
                  simp [skC] at d2
                  have f2 := HX2'.out.frozen 2
                  have hlbx := HX2'.out.lt
                  generalize hm : ch.length = m2 at hchl d2
                  have HCM := hide hm
                  clear hm
                  have HNE := hide (fun j (hj : (Value.slice Ac m2 cc).ownBlock = some j) => HC.out.lt j (by rw [HCM.out]; exact hj))
                  clear d5 f5 hzb
                  go_wp2_with (at_builtin; obtain ⟨i0, hi0, hz0, hz1, hz2⟩ := HII.out; refine wpList_append_any _ rfl (.tmp 98) (.tmp 100) _ rfl B 2 i0 _ 1 8 Try.underlying27 hi0 hz0 hz1 hz2 rfl (by omega) (.slice Ac m2 cc) m2 (ch.flatMap intC) rfl (HCM.out ▸ HC2'.out.alloc _) _ (some ⟨wx.heap.size, 0, none⟩) 1 1 [.int .i64 (i : Int)] rfl (one_readsZ wx 2 i) (one_oneZ i) (by simp only [maxLen]; omega) (by omega) (by have := HF2.out.size; simp; omega) ?_; clear hi0 hz0 hz1 hz2; intro v1 w3 hown1 hg1 hat1; obtain ⟨A1, c1, rfl⟩ := own_form hown1; have HC3 := hide hown1; have HG3 := hide hg1; have HAT1 := hide hat1; have HX3 := hide (blk_app HX2'.out hg1 (fun j hj => by have := HNE.out j hj; omega)); clear hown1 hg1 hat1 d2 f2; have d2 := HX3.out.cell 2; simp [skC] at d2; have f2 := HX3.out.frozen 2; have hlb3 := HX3.out.lt)
                  have HF4 : Hid (Fr B X w (w3.setCell ⟨X, 2, none⟩ (.slice A1 (m2 + 1) c1))) := hide (((HF2.out.x ((IsX.refl wx).alloc _) hBw).gr HG3.out hBw (fun k hk => .inl (HNE.out k hk).1)).set _ _ (.inl rfl))
                  have HX4 := hide (HX3.out.set_ 2 (.slice A1 (m2 + 1) c1))
                  have HC4 := hide (own_set_other HC3.out 2 (.slice A1 (m2 + 1) c1) hXB)
                  have HB4 := hide (own_set_other (own_app_other HB2'.out (HCM.out ▸ HAp.out) HG3.out) 2 (.slice A1 (m2 + 1) c1) hXB)
                  have HAP4 := hide (apart_app (HCM.out ▸ HAp.out) (HB2'.out.alloc _) HAT1.out)
                  generalize w3.setCell ⟨X, 2, none⟩ (.slice A1 (m2 + 1) c1) = w4 at HF4 HX4 HC4 HB4 ⊢
                  clear d2 f2 HX3 HC3 HG3 HAT1
                  have HIN : Hid (osIn xs (some ⟨ab, aoff, none⟩) n c lost X B (i + 1) (ch ++ [(i : Int)]) (a + x.Worth)  g.pay w4) := hide {
                    XB := hXB
                    Bw := Nat.le_trans hBw HF4.out.size
                    left := by simp only [Got.pay]; omega
                    chl := by rw [intC_snoc HCM.out]; omega
                    a0 := by omega
                    a1 := by omega
                    chs := fun t ht => by
                      rcases List.mem_append.1 ht with h1 | h1
                      · have := hchs t h1; omega
                      · simp at h1; omega
                    les := by simp only [Got.pay]; rw [HS1.out]; exact HTK.out
                    fu := HFU.out
                    rdA := HA.out.fr hAo HF4.out
                    Ao := .inr hAo
                    at_ := by
                      refine ⟨A1, c1, Ab, cb, ?_, ?_, HB4.out, ?_⟩
                      · rw [intC_snoc HCM.out, skC, ← HPY.out]; exact HX4.out
                      · rw [intC_snoc HCM.out, flat_snoc]; exact HC4.out
                      · rw [intC_snoc HCM.out]; exact HAP4.out }
                  refine (IH.out (i + 1) _ (ch ++ [(i : Int)]) (a + x.Worth) g.pay w4 (by omega) (by have := HIR.out; omega) HIN.out).mono ?_
                  rintro e w5 ⟨rfl, hfr5, hat5⟩
                  have HH := hide (show hunt (richHunt xs lost) r (ch ++ [(i : Int)]) (a + x.Worth) 0 g.pay = G1 by rw [← HGG.out, hunt1_yes (by rw [HT.out]; exact HM.out), HL1.out, HL2.out])
                  rw [HH.out] at hat5 ⊢
                  have HF5 := hide (HF4.out.trans hfr5)
                  have HAT5 := hide hat5
                  clear hat5 hfr5
                  cases hfl : G1.full
                  · obtain ⟨A5, c5, Ab5, cb5, hX5, hC5, hB5, hAp5⟩ := HAT5.out hfl
                    have HFL := hide hfl
                    clear hfl
                    rw [intC_snoc HCM.out] at hX5 hC5 hAp5
                    rw [flat_snoc] at hC5
                    have hcap : m2 + 1 ≤ c5 := own_cap hC5
                    obtain ⟨g5, rfl, hg5, hg5'⟩ := own_some hC5 (by omega)
                    have hcap' : (m2 : Int) ≤ (c5 : Int) := by omega
                    have hm0 : (0 : Int) ≤ (m2 : Int) := by omega
                    have HX5 := hide hX5
                    have HC5 := hide hC5
                    have HB5 := hide hB5
                    have HAP5 := hide hAp5
                    clear hX5 hC5 hB5 hAp5 HAT5
                    have d2 := HX5.out.cell 2
                    simp [skC] at d2
                    have f2 := HX5.out.frozen 2
                    have hlb5 := HX5.out.lt
                    have hwr : IntKind.i64.wrap (m2 : Int) = (m2 : Int) := IntWalk.i64_in _ (by omega)
                    go_wp2_with fail
                    go_still_tail 14, (by kernel_rfl)
                    clear hwr
                    change wpList _ _ _ _ _ w5.drew
                    go_wp2_with fail
                    go_meet
                    refine ⟨(HF5.out.trans (Fr.of_x (IsX.drew (IsX.refl w5)) (Nat.le_trans hBw HF5.out.size))).set _ _ (.inl rfl), HFL.out, ?_⟩
                    rw [← HCM.out] at *
                    refine ⟨some ⟨g5, 0, none⟩, c5, Ab5, cb5, ?_, own_set_other (own_x' (own_pop HC5.out) (IsX.drew (IsX.refl w5))) 2 _ hXB, own_set_other (own_x' HB5.out (IsX.drew (IsX.refl w5))) 2 _ hXB, HAP5.out⟩
                    exact (HX5.out.x (IsX.drew (IsX.refl w5))).set_ 2 _
                  · have HGE := hide (show (hunt (richHunt xs lost) (r + 1) ch a 0 g).full = true by rw [HG1.out]; exact hunt2_full hfl)
                    clear hfl
                    go_wp2_with fail
                    go_ret
                    exact ⟨by rw [HGE.out]; rfl, HF5.out, fun h => by rw [HGE.out] at h; cases h⟩
            case rest =>
              obtain ⟨hfr, hfl, Ad, cd, Ae, ce, hX, hC, hB, hAp⟩ := hcut
              have HLF := hide (show G1.left ≤ g.left by rw [← HGG.out]; exact hunt1_left (by have := HI.out; simp only [richHunt] at this ⊢; have := HIR.out; have := HN.out; omega))
              have hl2 : (G1.left : Int) ≤ 20000 := by have := HLF.out; omega
              have HXd := hide hX
              have HCd := hide hC
              have HBd := hide hB
              have HAPd := hide hAp
              have HFd := hide hfr
              have HFL := hide hfl
              have d4 := hX.cell 4
              have d5 := hX.cell 5
              simp [skC] at d4 d5
              have f5 := hX.frozen 5
              have hlbd := hX.lt
              clear hX hC hB hAp hfr hfl HTAK HX2
              have HT2 := hide (HLE.out G1)
              generalize hmo : G1.most = mo at d4
              have HMO := hide hmo
              clear hmo
              by_cases hq2 : mo < a + S1
              rotate_left
              · have HGE := hide (show hunt (richHunt xs lost) (r + 1) ch a 0 g = G1 by
                  have h2 : decide (G1.most < a + S1) = false := by rw [HMO.out]; simp; omega
                  rw [HG1.out, hunt2_no (by rw [HT2.out, h2]; rfl), HT2.out, h2, no_false])
                go_wp2_with fail
                go_ret
                exact ⟨by rw [HGE.out, HFL.out]; rfl, HFd.out, fun _ => by rw [HGE.out]; exact ⟨Ad, cd, Ae, ce, HXd.out, HCd.out, HBd.out, HAPd.out⟩⟩
              · have HT2 := hide (show (richHunt xs lost).leaves i a 0 G1.most = true by rw [HT2.out, HMO.out]; exact decide_eq_true hq2)
                by_cases hz : G1.left = 0
                · have HGE := hide (show (hunt (richHunt xs lost) (r + 1) ch a 0 g).full = true by
                    rw [HG1.out, hunt2_no (may_none hz), HT2.out, no_zero hz rfl])
                  rw [hz] at d5
                  rw [show (((0 : Nat) : Int)) = 0 from rfl] at d5
                  clear hz
                  go_wp2_with fail
                  go_ret
                  exact ⟨by rw [HGE.out]; rfl, HFd.out, fun h => by rw [HGE.out] at h; cases h⟩
                · have HGE := hide (show hunt (richHunt xs lost) r ch a 0 G1.pay = hunt (richHunt xs lost) (r + 1) ch a 0 g by
                    rw [HG1.out, hunt2_yes (by rw [HT2.out]; simp [Got.may, HFL.out, hz])])
                  have hpy : (G1.left : Int) - 1 = ((G1.pay.left : Nat) : Int) := by simp only [Got.pay]; omega
                  have HPY := hide hpy
                  have hz0 : 0 < (G1.left : Int) := by omega
                  have hzb : ((G1.left : Int) == 0) = false := by simp; exact hz
                  have HLS := hide (show G1.most < a + S1 by rw [HMO.out]; exact hq2)
                  clear hpy hz
                  go_wp2_with fail
                  have HX6 := hide (HXd.out.set_ 5 (.int .i64 ((G1.left : Int) - 1)))
                  have HC6 := hide (own_set_other HCd.out 5 (.int .i64 ((G1.left : Int) - 1)) hXB)
                  have HB6 := hide (own_set_other HBd.out 5 (.int .i64 ((G1.left : Int) - 1)) hXB)
                  have HF6 := hide (HFd.out.set ⟨X, 5, none⟩ (.int .i64 ((G1.left : Int) - 1)) (.inl rfl) : Fr B X w _)
                  generalize World.setCell _ ⟨X, 5, none⟩ (.int .i64 ((G1.left : Int) - 1)) = w6 at HX6 HC6 HB6 HF6 ⊢
                  have HIN : Hid (osIn xs (some ⟨ab, aoff, none⟩) n c lost X B (i + 1) ch a G1.pay w6) := hide {
                    XB := hXB
                    Bw := Nat.le_trans hBw HF6.out.size
                    left := by simp only [Got.pay]; omega
                    chl := by omega
                    a0 := ha0
                    a1 := by omega
                    chs := fun t ht => by have := hchs t ht; omega
                    les := by simp only [Got.pay]; rw [HS1.out]; exact HLS.out
                    fu := HFL.out
                    rdA := HA.out.fr hAo HF6.out
                    Ao := .inr hAo
                    at_ := ⟨Ad, cd, Ae, ce, by rw [skC, ← HPY.out]; exact HX6.out, HC6.out, HB6.out, HAPd.out⟩ }
                  refine (IH.out (i + 1) _ ch a G1.pay w6 (by omega) (by have := HIR.out; omega) HIN.out).mono ?_
                  rintro e w7 ⟨rfl, hfr7, hat7⟩
                  rw [HGE.out] at hat7 ⊢
                  have HAT7 := hide hat7
                  have HF7 := hide (HF6.out.trans hfr7)
                  clear hat7 hfr7
                  go_wp2_with fail
                  go_ret
                  exact ⟨rfl, HF7.out, HAT7.out⟩
end Go.Proofs.Ytdedaoafihomoaa
