/- The program's search (questionSearch): the recursion. Conditions: those of the theorems alone. -/
import Derived.Test.YthcgapfhlggegaaQuests
import Derived.Test.YthcgapfhlggegaaSearch
namespace Go.Proofs.Ythcgapfhlggegaa
set_option linter.unusedVariables false
open Go.RowKit

def quC (vl : Value) (vc vb : Value) (g : Got) : Array Value := #[vl, vc, vb, .int .i64 g.most, .int .i64 (g.left : Int)]
def qsAt (X B : Nat) (A : Option Addr) (n c : Nat) (lost : Int) (ch : List Int) (g : Got) (w : World) : Prop := At 56 X B 2 (quC (.slice A n c)) Got.best intC ch g w
def qsQ (X B : Nat) (A : Option Addr) (n c : Nat) (lost : Int) (ch : List Int) (g : Got) (w : World) (e : Ending) (w' : World) : Prop := e = .returned (.bool (!g.full)) ∧ Fr B X w w' ∧ (g.full = false → qsAt X B A n c lost ch g w')

set_option maxHeartbeats 1600000 in
set_option maxRecDepth 100000 in
theorem c_qsLeaf (A : Option Addr) (c n : Nat) (xs : List QuestionD) (lost : Int) (X B : Nat) (ch : List Int) (a b : Int) (g : Got) (w : World)
    (hn : n ≤ 16) (hXB : X < B) (hBw : B ≤ w.heap.size) (hch : ch.length ≤ 16) (hles : g.most < a) (hfu : g.full = false) (hat : qsAt X B A n c lost ch g w) :
    Calls Try.prog 25 #[.pointer (some ⟨X, 0, none⟩), .int .i64 (n : Int), .int .i64 a, .int .i64 (lost - b)] w (qsQ X B A n c lost ch (hunt (questHunt xs lost) 0 ch a b g) w) := by
  obtain ⟨Ac, cc, Ab, cb, hX, hC, hB, hAp⟩ := hat
  have hlb := hX.lt
  have HX := hide hX
  have HC := hide hC
  have HB := hide hB
  have HAp := hide hAp
  have HFU := hide hfu
  have d0 := hX.cell 0
  have d1 := hX.cell 1
  simp [quC] at d0 d1
  clear hX hC hB hAp hfu
  have HR := hide (show hunt (questHunt xs lost) 0 ch a b g = ⟨ch, a, g.left, g.full⟩ by simp [hunt, questHunt, hles])
  clear hles
  go_enter Try.func25, Try.ntmps25
  go_wp2_with fail
  refine (c_Clone Ac cc ch w (by omega) (Own.rd (cells := intC) (k := 1) (by omega) intC_len HC.out rfl)).mono ?_
  rintro e w2 ⟨A', c', rfl, hO, hx⟩
  have HX2 := hide (HX.out.x hx)
  have HC2 := hide (own_x' HC.out hx)
  have HO := hide hO
  have HAP := hide (apart_new HC.out hO)
  have HFX := hide hx
  have g3 := HX2.out.cell 2
  have g4 := HX2.out.cell 3
  simp [quC] at g3 g4
  have f3' := HX2.out.frozen 2
  have f4' := HX2.out.frozen 3
  have hlb2 := HX2.out.lt
  clear hO hx
  go_wp2_with fail
  go_ret
  refine ⟨by rw [HR.out, HFU.out]; rfl, ((Fr.of_x HFX.out hBw).set ⟨X, 2, none⟩ _ (.inl rfl)).set ⟨X, 3, none⟩ _ (.inl rfl), fun _ => ?_⟩
  rw [HR.out]
  refine ⟨Ac, cc, A', c', ?_, own_set_other (own_set_other HC2.out 2 _ hXB) 3 _ hXB, own_set_other (own_set_other (row_le' HO.out hBw) 2 _ hXB) 3 _ hXB, HAP.out⟩
  exact (HX2.out.set_ 2 _).set_ 3 _

/-- what a call of the search is given -/
structure qsIn (xs : List QuestionD) (A : Option Addr) (n c : Nat) (lost : Int) (X B i : Nat) (ch : List Int) (a b : Int) (g : Got) (w : World) : Prop where
  XB : X < B
  Bw : B ≤ w.heap.size
  left : (g.left : Int) ≤ 20000
  chl : ch.length ≤ i
  a0 : 0 ≤ a
  a1 : a ≤ i * 100
  b0 : 0 ≤ b
  b1 : b ≤ lost
  les : g.most < a + sumPri (xs.drop i)
  fu : g.full = false
  rdA : Rd QuestionD.cells 4 w A xs
  Ao : xs = [] ∨ Out B X A
  at_ : qsAt X B A n c lost ch g w
set_option maxHeartbeats 3200000 in
set_option maxRecDepth 100000 in
theorem c_qsGo (A : Option Addr) (n c : Nat) (hnc : n ≤ c) (xs : List QuestionD) (hnn : n = xs.length) (hv : questsB xs = true) (lost : Int) (hlo : 0 ≤ lost) (hlo1 : lost ≤ 9223372036854775807) (X B : Nat) : ∀ (r i : Nat) (iv : Int) (ch : List Int) (a b : Int) (g : Got) (w : World), iv = (i : Int) → i + r = n →
    qsIn xs A n c lost X B i ch a b g w →
    Calls Try.prog 25 #[.pointer (some ⟨X, 0, none⟩), .int .i64 iv, .int .i64 a, .int .i64 (lost - b)] w (qsQ X B A n c lost ch (hunt (questHunt xs lost) r ch a b g) w) := by
  obtain ⟨hn, hok⟩ := questsB_ok hv
  rw [← hnn] at hn
  have HV := hide hv
  have HOK := hide hok
  have HN := hide hnn
  clear hv hok hnn
  intro r
  induction r with
  | zero =>
    intro i iv ch a b g w hiv hi h
    subst hiv
    obtain rfl : i = n := by omega
    exact c_qsLeaf A c i xs lost X B ch a b g w hn h.XB h.Bw (by have := h.chl; omega) (by have := h.les; rw [HN.out, List.drop_length] at this; simpa [sumPri] using this) h.fu h.at_
  | succ r ih =>
    intro i iv ch a b g w hiv hi h
    subst hiv
    have IH := hide ih
    clear ih
    have hlt : i < n := by omega
    have hltx : i < xs.length := HN.out ▸ hlt
    have HI := hide (show (questHunt xs lost).n - (r + 1) = i by simp only [questHunt]; rw [← HN.out]; omega)
    have HIR := hide hi
    clear hi
    obtain ⟨x0, x1, x2, x3⟩ := HOK.out _ (List.getElem_mem hltx)
    obtain ⟨hXB, hBw, hleft, hchl, ha0, ha1, hb0, hb1, hles, hfu, hA, hAo, hat⟩ := h
    have hAo := hAo.resolve_left (by intro e; rw [e] at hltx; simp at hltx)
    obtain ⟨Ac, cc, Ab, cb, hX, hC, hB, hAp⟩ := hat
    obtain ⟨ab, aoff, rfl, hab, k0, k1, k2, k3⟩ := QuestionD.rd hA (show xs[i]? = some xs[i] from List.getElem?_eq_getElem _)
    have HS := hide (sumPri_drop xs i hltx)
    have HBD := hide (fun (zs : List QuestionD) (hz : ∀ x ∈ zs, x ∈ xs) => sumPri_bd zs (fun x hx => by have := HOK.out x (hz x hx); omega))
    generalize hx : xs[i] = x at x0 x1 x2 x3 k0 k1 k2 k3
    have HX0 := hide hx
    clear hx
    have HA := hide hA
    clear hA
    have hlb := hX.lt
    have HX := hide hX
    have HC := hide hC
    have HB := hide hB
    have HAp := hide hAp
    have HFU := hide hfu
    have HLES := hide hles
    have d0 := hX.cell 0
    have d1 := hX.cell 1
    have d3 := hX.cell 3
    have d4 := hX.cell 4
    simp [quC] at d0 d1 d3 d4
    have f4 := hX.frozen 4
    clear hX hC hB hAp hfu hles
    have hin : ((i : Int) == (n : Int)) = false := by simp; omega
    have hi1 : (0 : Int) ≤ (i : Int) + 1 := by omega
    have hi2 : (i : Int) + 1 ≤ (n : Int) := by omega
    have hi3 : ((i : Int) + 1).toNat = i + 1 := by omega
    go_enter Try.func25, Try.ntmps25
    go_upto_region 5 with fail
    obtain ⟨m, hm⟩ : ∃ m, m = n - (i + 1) := ⟨_, rfl⟩
    have HM := hide hm
    clear hm
    go_cut [38, 39, 40] from 32 to 40 (fun s59 s60 s61 wc => wc = w ∧ s60 = .int .i64 (m : Int) ∧ s61 = .int .i64 0 ∧ ∃ AD cp, s59 = .slice AD m cp ∧ ∀ k, k < m → AD = some ⟨ab, aoff + (i + 1) * 4, none⟩)
    case first =>
      by_cases hlast : n = i + 1
      · have hms : m = 0 := by rw [HM.out, hlast]; omega
        subst hms
        by_cases hlc : c = i + 1
        · subst hlc
          subst hlast
          go_wp2_with fail
          go_meet
          exact ⟨rfl, by simp, rfl, some ⟨ab, aoff, none⟩, 0, by simp, fun k hk => absurd hk (by omega)⟩
        · subst hlast
          go_wp2_with fail
          go_meet
          exact ⟨rfl, by simp, rfl, some ⟨ab, aoff + (i + 1) * 4, none⟩, c - (i + 1), by simp, fun k hk => absurd hk (by omega)⟩
      · have hms := HM.out
        subst hms
        have hlc : ¬ c = i + 1 := by omega
        go_wp2_with fail
        go_meet
        exact ⟨rfl, by simp, rfl, _, _, rfl, fun k hk => rfl⟩
    case rest =>
      obtain ⟨hwc, rfl, rfl, AD, cp, rfl, hAD⟩ := hcut
      obtain rfl : w = wc := hwc.symm
      clear hwc
      have HAD := hide hAD
      clear hAD
      have hmn : m ≤ 16 := by have := HM.out; omega
      go_wp2_with fail
      go_loopw [9, 40] (fun sv iv wr => ∃ k : Nat, k ≤ m ∧ iv = .int .i64 k ∧ sv = .int .i64 (sumPri ((xs.drop (i + 1)).take k)) ∧ IsX w wr) (fun _ iv _ => m - (intOf iv).toNat)
      case atStart => exact ⟨0, Nat.zero_le _, rfl, by simp [sumPri], IsX.refl _⟩
      case round =>
        obtain ⟨k, hk, rfl, rfl, p, rfl⟩ := hrel
        by_cases hlt2 : k < m
        · have hkx : i + 1 + k < xs.length := by have := HM.out; have := HN.out; omega
          obtain ⟨b', off', e, hb', e0, e1, e2, e3⟩ := QuestionD.rd HA.out (show xs[i + 1 + k]? = some xs[i + 1 + k] from List.getElem?_eq_getElem _)
          injection e with e
          injection e with ee1 ee2
          subst ee1 ee2
          have HAk := HAD.out k hlt2
          subst HAk
          obtain ⟨y0, y1, y2, y3⟩ := HOK.out _ (List.getElem_mem hkx)
          have HS2 := hide (show sumPri ((xs.drop (i + 1)).take (k + 1)) = sumPri ((xs.drop (i + 1)).take k) + xs[i + 1 + k].Priority by
            rw [sumPri_take (xs.drop (i + 1)) k (by simp; omega), List.getElem_drop])
          have hbd := HBD.out ((xs.drop (i + 1)).take k) (fun x hx => List.mem_of_mem_drop (List.mem_of_mem_take hx))
          have hlk : ((xs.drop (i + 1)).take k).length ≤ k := List.length_take_le _ _
          obtain ⟨bd0, bd1⟩ := hbd
          rw [show aoff + (i + 1 + k) * 4 = aoff + (i + 1) * 4 + k * 4 by omega] at e0 e1 e2 e3
          generalize xs[i + 1 + k] = y at e0 e1 e2 e3 y0 y1 y2 y3 HS2
          generalize sumPri ((xs.drop (i + 1)).take k) = SK at bd0 bd1 HS2 ⊢
          clear d0 d1 d3 d4 f4 k0 k1 k2 k3
          go_wp2_with fail
          go_roundw
          case rel => exact ⟨k + 1, by omega, by go_num, by rw [HS2.out], IsX.alloc ⟨p, rfl⟩ _⟩
          case measure => simp [intOf]; omega
        · obtain rfl : k = m := by omega
          have hbd := HBD.out (xs.drop (i + 1)) (fun x hx => List.mem_of_mem_drop hx)
          have hl1 : (xs.drop (i + 1)).length ≤ 16 := by have := HN.out; simp; omega
          have hte : (xs.drop (i + 1)).take k = xs.drop (i + 1) := List.take_of_length_le (by have := HM.out; have := HN.out; simp; omega)
          rw [hte]
          obtain ⟨bd0, bd1⟩ := hbd
          generalize hs1 : sumPri (xs.drop (i + 1)) = S1 at bd0 bd1 HS ⊢
          have HS1 := hide hs1
          clear hs1 hte hlt2 HAD
          go_wp2_with fail
          obtain ⟨w1, hw1⟩ : ∃ w1, w1 = (xt w p).alloc (.cells #[.string x.Id, .int .i64 x.Arrived, .int .i64 x.Length, .int .i64 x.Priority] 32) := ⟨_, rfl⟩
          have hx1 : IsX w w1 := by rw [hw1]; exact IsX.alloc ⟨p, rfl⟩ _
          have hK : Blk w1 (xt w p).heap.size 32 #[.string x.Id, .int .i64 x.Arrived, .int .i64 x.Length, .int .i64 x.Priority] := by rw [hw1]; exact Blk.new _ _ _
          have hkl : w.heap.size ≤ (xt w p).heap.size := size_xt w p
          rw [← hw1]
          clear hw1
          generalize hkb : (xt w p).heap.size = KB at hK hkl ⊢
          have HX1 := hide (HX.out.x hx1)
          have HK := hide hK
          have HZ1 := hide hx1
          clear hkb hx1 hK d0 d1 d3 d4 f4 k0 k1 k2 k3
          obtain ⟨t, htt⟩ : ∃ t, t = (decide (b + x.Length ≤ lost) && decide (g.most < a + x.Priority + S1)) := ⟨_, rfl⟩
          have HTT := hide htt
          clear htt
          go_cut [72] from 56 (fun s72 wc2 => s72 = .bool t ∧ IsX w1 wc2)
          case first =>
            have d3 := HX1.out.cell 3
            simp [quC] at d3
            have k2 := HK.out.cell 2
            have k3 := HK.out.cell 3
            simp at k2 k3
            have hlb1 := HX1.out.lt
            have hKl := HK.out.lt
            generalize hmo : g.most = mo at d3 HTT
            have hw1 : IntKind.i64.wrap (a + x.Priority) = a + x.Priority := IntWalk.i64_in _ (by omega)
            have hw3 : IntKind.i64.wrap (a + x.Priority + S1) = a + x.Priority + S1 := IntWalk.i64_in _ (by omega)
            clear hmo
            cases hc1 : decide (x.Length ≤ lost - b)
            · have HT := hide (show t = false by rw [HTT.out]; simp at hc1 ⊢; omega)
              refine wp_region_x (by kernel_rfl) (by kernel_rfl) ?_
              repeat (go_big_quiet_step (fail))
              refine wpQuiet_nil ?_
              rintro _ ⟨q, rfl⟩
              go_wp2_with fail
              go_meet
              exact ⟨by rw [HT.out], ⟨q, rfl⟩⟩
            · cases hc2 : decide (a + x.Priority + S1 > mo)
              · have HT := hide (show t = false by rw [HTT.out]; simp at hc1 hc2 ⊢; omega)
                refine wp_region_x (by kernel_rfl) (by kernel_rfl) ?_
                repeat (go_big_quiet_step (fail))
                refine wpQuiet_nil ?_
                rintro _ ⟨q, rfl⟩
                go_wp2_with fail
                go_meet
                exact ⟨by rw [HT.out], ⟨q, rfl⟩⟩
              · have HT := hide (show t = true by rw [HTT.out]; simp at hc1 hc2 ⊢; omega)
                refine wp_region_x (by kernel_rfl) (by kernel_rfl) ?_
                repeat (go_big_quiet_step (fail))
                refine wpQuiet_nil ?_
                rintro _ ⟨q, rfl⟩
                go_wp2_with fail
                go_meet
                exact ⟨by rw [HT.out], ⟨q, rfl⟩⟩
          case rest =>
            obtain ⟨rfl, hx2⟩ := hcut
            have HX2 := hide (HX1.out.x hx2)
            have HK2 := hide (HK.out.x hx2)
            have HZ2 := hide (HZ1.out.trans hx2)
            clear hx2
            have HT := hide (show (questHunt xs lost).takes i a b ch g.most = t by simp only [questHunt]; rw [questAt_eq hltx, HX0.out, HS.out, HTT.out, HX0.out, Int.add_assoc])
            have HTAK := hide (fun (h : t = true) => show b + x.Length ≤ lost ∧ g.most < a + x.Priority + S1 by have h1 := HTT.out; rw [h] at h1; simpa using h1.symm)
            have HG1 := hide (show hunt (questHunt xs lost) (r + 1) ch a b g = hunt2 (questHunt xs lost) r i ch a b (hunt1 (questHunt xs lost) r i ch a b g) from hunt_eq HI.out)
            have HL1 := hide (show a + (questHunt xs lost).g1 i = a + x.Priority by simp only [questHunt]; rw [questAt_eq hltx, HX0.out])
            have HL2 := hide (show b + (questHunt xs lost).g2 i = b + x.Length by simp only [questHunt]; rw [questAt_eq hltx, HX0.out])
            have HLE : Hid (∀ g1 : Got, (questHunt xs lost).leaves i a b g1.most = decide (g1.most < a + S1)) := hide (fun g1 => by simp only [questHunt]; rw [HS1.out])
            generalize hgg : hunt1 (questHunt xs lost) r i ch a b g = G1 at HG1
            have HGG := hide hgg
            clear hgg
            go_upto_if 72 with fail
            go_cut [8, 72] from 73 (fun _ _ wd => Fr B X w wd ∧ G1.full = false ∧ qsAt X B (some ⟨ab, aoff, none⟩) n c lost ch G1 wd)
            case first =>
              cases t
              · have HGE := hide (show G1 = g by rw [← HGG.out, hunt1_no (by rw [HT.out]; rfl), HT.out, no_false])
                go_wp2_with fail
                go_meet
                exact ⟨Fr.of_x HZ2.out hBw, by rw [HGE.out]; exact HFU.out, by rw [HGE.out]; exact ⟨Ac, cc, Ab, cb, HX2.out, own_x' HC.out HZ2.out, own_x' HB.out HZ2.out, HAp.out⟩⟩
              · have HTK : Hid (b + x.Length ≤ lost ∧ g.most < a + x.Priority + S1) := hide (HTAK.out rfl)
                have d4 := HX2.out.cell 4
                simp [quC] at d4
                have f4 := HX2.out.frozen 4
                have hlb2 := HX2.out.lt
                by_cases hz : g.left = 0
                · have HGE := hide (show (hunt (questHunt xs lost) (r + 1) ch a b g).full = true by
                    rw [HG1.out]; refine hunt2_full ?_
                    rw [← HGG.out, hunt1_no (may_none hz), HT.out, no_zero hz rfl])
                  rw [hz] at d4
                  rw [show (((0 : Nat) : Int)) = 0 from rfl] at d4
                  clear hz
                  go_wp2_with fail
                  go_ret
                  exact ⟨by rw [HGE.out]; rfl, Fr.of_x HZ2.out hBw, fun h => by rw [HGE.out] at h; cases h⟩
                · have HM := hide (show g.may true = true by simp [Got.may, HFU.out, hz])
                  have hz0 : 0 < (g.left : Int) := by omega
                  have HZZ := hide hz
                  have hzb : ((g.left : Int) == 0) = false := by simp; exact hz
                  clear hz
                  have HC2 := hide (own_x' HC.out HZ2.out)
                  have HB2 := hide (own_x' HB.out HZ2.out)
                  have HII := hide (info_parts Int64_info)
                  have hpy : (g.left : Int) - 1 = ((g.pay.left : Nat) : Int) := by simp only [Got.pay]; omega
                  have HPY := hide hpy
                  clear hpy
                  go_upto_region 15 with fail
                  have HX2' := hide (HX2.out.set_ 4 (.int .i64 ((g.left : Int) - 1)))
                  have HC2' := hide (own_set_other HC2.out 4 (.int .i64 ((g.left : Int) - 1)) hXB)
                  have HB2' := hide (own_set_other HB2.out 4 (.int .i64 ((g.left : Int) - 1)) hXB)
                  have HK2' := hide (HK2.out.far (p := ⟨X, 4, none⟩) (by simp; omega) (.int .i64 ((g.left : Int) - 1)))
                  have HF2 := hide ((Fr.of_x HZ2.out hBw).set ⟨X, 4, none⟩ (.int .i64 ((g.left : Int) - 1)) (.inl rfl) : Fr B X w _)
                  generalize wc.setCell ⟨X, 4, none⟩ (.int .i64 ((g.left : Int) - 1)) = wx at HX2' HC2' HB2' HK2' HF2 ⊢
                  have d1 := HX2'.out.cell 1
                  simp [quC] at d1
                  have f1 := HX2'.out.frozen 1
                  have hlbx := HX2'.out.lt
                  generalize hm : ch.length = m2 at hchl d1
                  have HCM := hide hm
                  clear hm
                  have HNE := hide (fun j (hj : (Value.slice Ac m2 cc).ownBlock = some j) => HC.out.lt j (by rw [HCM.out]; exact hj))
                  clear d4 f4 hzb
                  go_wp2_with (at_builtin; obtain ⟨i0, hi0, hz0, hz1, hz2⟩ := HII.out; refine wpList_append_any _ rfl (.tmp 89) (.tmp 91) _ rfl B 2 i0 _ 1 8 Try.underlying27 hi0 hz0 hz1 hz2 rfl (by omega) (.slice Ac m2 cc) m2 (ch.flatMap intC) rfl (HCM.out ▸ HC2'.out.alloc _) _ (some ⟨wx.heap.size, 0, none⟩) 1 1 [.int .i64 (i : Int)] rfl (one_readsZ wx 2 i) (one_oneZ i) (by simp only [maxLen]; omega) (by omega) (by have := HF2.out.size; simp; omega) ?_; clear hi0 hz0 hz1 hz2; intro v1 w3 hown1 hg1 hat1; obtain ⟨A1, c1, rfl⟩ := own_form hown1; have HC3 := hide hown1; have HG3 := hide hg1; have HAT1 := hide hat1; have HX3 := hide (blk_app HX2'.out hg1 (fun j hj => by have := HNE.out j hj; omega)); have HK3 := hide (blk_app HK2'.out hg1 (fun j hj => by have := HNE.out j hj; omega)); clear hown1 hg1 hat1 d1 f1; have d1 := HX3.out.cell 1; simp [quC] at d1; have f1 := HX3.out.frozen 1; have hlb3 := HX3.out.lt; have k2 := HK3.out.cell 2; have k3 := HK3.out.cell 3; simp at k2 k3; have hkne : KB ≠ X := (by omega))
                  have HF4 : Hid (Fr B X w (w3.setCell ⟨X, 1, none⟩ (.slice A1 (m2 + 1) c1))) := hide (((HF2.out.x ((IsX.refl wx).alloc _) hBw).gr HG3.out hBw (fun k hk => .inl (HNE.out k hk).1)).set _ _ (.inl rfl))
                  have HX4 := hide (HX3.out.set_ 1 (.slice A1 (m2 + 1) c1))
                  have HC4 := hide (own_set_other HC3.out 1 (.slice A1 (m2 + 1) c1) hXB)
                  have HB4 := hide (own_set_other (own_app_other HB2'.out (HCM.out ▸ HAp.out) HG3.out) 1 (.slice A1 (m2 + 1) c1) hXB)
                  have HAP4 := hide (apart_app (HCM.out ▸ HAp.out) (HB2'.out.alloc _) HAT1.out)
                  generalize w3.setCell ⟨X, 1, none⟩ (.slice A1 (m2 + 1) c1) = w4 at HF4 HX4 HC4 HB4 ⊢
                  clear d1 f1 k2 k3 hkne HK3 HX3 HC3 HG3 HAT1
                  have HIN : Hid (qsIn xs (some ⟨ab, aoff, none⟩) n c lost X B (i + 1) (ch ++ [(i : Int)]) (a + x.Priority) (b + x.Length) g.pay w4) := hide {
                    XB := hXB
                    Bw := Nat.le_trans hBw HF4.out.size
                    left := by simp only [Got.pay]; omega
                    chl := by rw [intC_snoc HCM.out]; omega
                    a0 := by omega
                    a1 := by omega
                    b0 := by omega
                    b1 := HTK.out.1
                    les := by simp only [Got.pay]; rw [HS1.out]; exact HTK.out.2
                    fu := HFU.out
                    rdA := HA.out.fr hAo HF4.out
                    Ao := .inr hAo
                    at_ := by
                      refine ⟨A1, c1, Ab, cb, ?_, ?_, HB4.out, ?_⟩
                      · rw [intC_snoc HCM.out, quC, ← HPY.out]; exact HX4.out
                      · rw [intC_snoc HCM.out, flat_snoc]; exact HC4.out
                      · rw [intC_snoc HCM.out]; exact HAP4.out }
                  refine (show Calls Try.prog 25 #[.pointer (some ⟨X, 0, none⟩), _, .int .i64 (a + x.Priority), .int .i64 (lost - b - x.Length)] w4 (qsQ X B (some ⟨ab, aoff, none⟩) n c lost (ch ++ [(i : Int)]) (hunt (questHunt xs lost) r (ch ++ [(i : Int)]) (a + x.Priority) (b + x.Length) g.pay) w4) from (show lost - (b + x.Length) = lost - b - x.Length by omega) ▸ IH.out (i + 1) _ (ch ++ [(i : Int)]) (a + x.Priority) (b + x.Length) g.pay w4 (by omega) (by have := HIR.out; omega) HIN.out).mono ?_
                  rintro e w5 ⟨rfl, hfr5, hat5⟩
                  have HH := hide (show hunt (questHunt xs lost) r (ch ++ [(i : Int)]) (a + x.Priority) (b + x.Length) g.pay = G1 by rw [← HGG.out, hunt1_yes (by rw [HT.out]; exact HM.out), HL1.out, HL2.out])
                  rw [HH.out] at hat5 ⊢
                  have HF5 := hide (HF4.out.trans hfr5)
                  have HAT5 := hide hat5
                  clear hat5 hfr5
                  cases hfl : G1.full
                  · obtain ⟨A5, c5, Ab5, cb5, hX5, hC5, hB5, hAp5⟩ := HAT5.out hfl
                    have HFL := hide hfl
                    clear hfl
                    rw [intC_snoc HCM.out] at hX5 hC5 hAp5
                    rw [flat_snoc] at hC5
                    have hcap : m2 + 1 ≤ c5 := own_cap hC5
                    obtain ⟨g5, rfl, hg5, hg5'⟩ := own_some hC5 (by omega)
                    have hcap' : (m2 : Int) ≤ (c5 : Int) := by omega
                    have hm0 : (0 : Int) ≤ (m2 : Int) := by omega
                    have HX5 := hide hX5
                    have HC5 := hide hC5
                    have HB5 := hide hB5
                    have HAP5 := hide hAp5
                    clear hX5 hC5 hB5 hAp5 HAT5
                    have d1 := HX5.out.cell 1
                    simp [quC] at d1
                    have f1 := HX5.out.frozen 1
                    have hlb5 := HX5.out.lt
                    have hwr : IntKind.i64.wrap (m2 : Int) = (m2 : Int) := IntWalk.i64_in _ (by omega)
                    go_wp2_with fail
                    go_still_tail 14, (by kernel_rfl)
                    clear hwr
                    change wpList _ _ _ _ _ w5.drew
                    go_wp2_with fail
                    go_meet
                    refine ⟨(HF5.out.trans (Fr.of_x (IsX.drew (IsX.refl w5)) (Nat.le_trans hBw HF5.out.size))).set _ _ (.inl rfl), HFL.out, ?_⟩
                    rw [← HCM.out] at *
                    refine ⟨some ⟨g5, 0, none⟩, c5, Ab5, cb5, ?_, own_set_other (own_x' (own_pop HC5.out) (IsX.drew (IsX.refl w5))) 1 _ hXB, own_set_other (own_x' HB5.out (IsX.drew (IsX.refl w5))) 1 _ hXB, HAP5.out⟩
                    exact (HX5.out.x (IsX.drew (IsX.refl w5))).set_ 1 _
                  · have HGE := hide (show (hunt (questHunt xs lost) (r + 1) ch a b g).full = true by rw [HG1.out]; exact hunt2_full hfl)
                    clear hfl
                    go_wp2_with fail
                    go_ret
                    exact ⟨by rw [HGE.out]; rfl, HF5.out, fun h => by rw [HGE.out] at h; cases h⟩
            case rest =>
              obtain ⟨hfr, hfl, Ad, cd, Ae, ce, hX, hC, hB, hAp⟩ := hcut
              have HLF := hide (show G1.left ≤ g.left by rw [← HGG.out]; exact hunt1_left (by have := HI.out; simp only [questHunt] at this ⊢; have := HIR.out; have := HN.out; omega))
              have hl2 : (G1.left : Int) ≤ 20000 := by have := HLF.out; omega
              have HXd := hide hX
              have HCd := hide hC
              have HBd := hide hB
              have HAPd := hide hAp
              have HFd := hide hfr
              have HFL := hide hfl
              have d3 := hX.cell 3
              have d4 := hX.cell 4
              simp [quC] at d3 d4
              have f4 := hX.frozen 4
              have hlbd := hX.lt
              clear hX hC hB hAp hfr hfl HTAK HX2
              have HT2 := hide (HLE.out G1)
              generalize hmo : G1.most = mo at d3
              have HMO := hide hmo
              clear hmo
              by_cases hq2 : mo < a + S1
              rotate_left
              · have HGE := hide (show hunt (questHunt xs lost) (r + 1) ch a b g = G1 by
                  have h2 : decide (G1.most < a + S1) = false := by rw [HMO.out]; simp; omega
                  rw [HG1.out, hunt2_no (by rw [HT2.out, h2]; rfl), HT2.out, h2, no_false])
                go_wp2_with fail
                go_ret
                exact ⟨by rw [HGE.out, HFL.out]; rfl, HFd.out, fun _ => by rw [HGE.out]; exact ⟨Ad, cd, Ae, ce, HXd.out, HCd.out, HBd.out, HAPd.out⟩⟩
              · have HT2 := hide (show (questHunt xs lost).leaves i a b G1.most = true by rw [HT2.out, HMO.out]; exact decide_eq_true hq2)
                by_cases hz : G1.left = 0
                · have HGE := hide (show (hunt (questHunt xs lost) (r + 1) ch a b g).full = true by
                    rw [HG1.out, hunt2_no (may_none hz), HT2.out, no_zero hz rfl])
                  rw [hz] at d4
                  rw [show (((0 : Nat) : Int)) = 0 from rfl] at d4
                  clear hz
                  go_wp2_with fail
                  go_ret
                  exact ⟨by rw [HGE.out]; rfl, HFd.out, fun h => by rw [HGE.out] at h; cases h⟩
                · have HGE := hide (show hunt (questHunt xs lost) r ch a b G1.pay = hunt (questHunt xs lost) (r + 1) ch a b g by
                    rw [HG1.out, hunt2_yes (by rw [HT2.out]; simp [Got.may, HFL.out, hz])])
                  have hpy : (G1.left : Int) - 1 = ((G1.pay.left : Nat) : Int) := by simp only [Got.pay]; omega
                  have HPY := hide hpy
                  have hz0 : 0 < (G1.left : Int) := by omega
                  have hzb : ((G1.left : Int) == 0) = false := by simp; exact hz
                  have HLS := hide (show G1.most < a + S1 by rw [HMO.out]; exact hq2)
                  clear hpy hz
                  go_wp2_with fail
                  have HX6 := hide (HXd.out.set_ 4 (.int .i64 ((G1.left : Int) - 1)))
                  have HC6 := hide (own_set_other HCd.out 4 (.int .i64 ((G1.left : Int) - 1)) hXB)
                  have HB6 := hide (own_set_other HBd.out 4 (.int .i64 ((G1.left : Int) - 1)) hXB)
                  have HF6 := hide (HFd.out.set ⟨X, 4, none⟩ (.int .i64 ((G1.left : Int) - 1)) (.inl rfl) : Fr B X w _)
                  generalize World.setCell _ ⟨X, 4, none⟩ (.int .i64 ((G1.left : Int) - 1)) = w6 at HX6 HC6 HB6 HF6 ⊢
                  have HIN : Hid (qsIn xs (some ⟨ab, aoff, none⟩) n c lost X B (i + 1) ch a b G1.pay w6) := hide {
                    XB := hXB
                    Bw := Nat.le_trans hBw HF6.out.size
                    left := by simp only [Got.pay]; omega
                    chl := by omega
                    a0 := ha0
                    a1 := by omega
                    b0 := hb0
                    b1 := hb1
                    les := by simp only [Got.pay]; rw [HS1.out]; exact HLS.out
                    fu := HFL.out
                    rdA := HA.out.fr hAo HF6.out
                    Ao := .inr hAo
                    at_ := ⟨Ad, cd, Ae, ce, by rw [quC, ← HPY.out]; exact HX6.out, HC6.out, HB6.out, HAPd.out⟩ }
                  refine (IH.out (i + 1) _ ch a b G1.pay w6 (by omega) (by have := HIR.out; omega) HIN.out).mono ?_
                  rintro e w7 ⟨rfl, hfr7, hat7⟩
                  rw [HGE.out] at hat7 ⊢
                  have HAT7 := hide hat7
                  have HF7 := hide (HF6.out.trans hfr7)
                  clear hat7 hfr7
                  go_wp2_with fail
                  go_ret
                  exact ⟨rfl, HF7.out, HAT7.out⟩
end Go.Proofs.Ythcgapfhlggegaa
