/- Marks written into a list of runs, with a bound of the number behind them, and into a run that is handed over by value. Conditions: lists no longer than 2^20. -/
import Derived.Test.YteneapchgmmhbaaRunLaw
namespace Go.Proofs.Yteneapchgmmhbaa
set_option linter.unusedVariables false
open Go.RowKit

set_option maxHeartbeats 3200000 in
theorem c_markRunSB (g hi c : Nat) (rs : List RunR) (n : Nat) (s : Int) (w : World) (hnn : n = rs.length) (hn : n ≤ 1048576) (hs0 : 1 ≤ s) (hs1 : s ≤ 1099511627776) (hsm : ∀ r ∈ rs, r.Cues.length ≤ 1048576 ∧ r.Remarks.length ≤ 1048576) (hgl1 : g < hi) (hO : OuterRun w g rs) (hR : ∀ r ∈ rs, r.rows g hi w) :
    Calls Try.prog 10 #[.slice (some ⟨g, 0, none⟩) n c, .int .i64 s] w fun e w' => ∃ k' : Int, e = .returned (.int .i64 k') ∧ 0 ≤ k' ∧ k' ≤ s + n * 5242881 ∧ Touch g hi w w' := by
  have HSM := hide hsm
  have HNN := hide hnn
  have hgl0 : g ≤ g := Nat.le_refl _
  have HO0 := hide hO
  have HR0 := hide hR
  clear hsm hO hR hnn
  go_enter Try.func10, Try.ntmps10
  go_wp2
  go_loopw [1, 5] (fun kv iv wr => ∃ (i : Nat) (q : Int), i ≤ n ∧ iv = .int .i64 i ∧ kv = .int .i64 q ∧ s ≤ q ∧ q ≤ s + i * 5242881 ∧ Hid (OuterRun wr g rs) ∧ Hid (∀ r ∈ rs, r.rows g hi wr) ∧ Hid (Touch g hi w wr)) (fun _ iv _ => n - (intOf iv).toNat)
  case atStart => exact ⟨0, s, Nat.zero_le _, rfl, rfl, by omega, by omega, HO0, HR0, hide (Touch.refl _ _ _)⟩
  case round =>
    clear HO0 HR0
    obtain ⟨i, q, hi', rfl, rfl, hq1, hq2, HO, HR, HT⟩ := hrel
    by_cases hltn : i < n
    · have hlt : i < rs.length := HNN.out ▸ hltn
      have hq3 : q ≤ 8796093022208 := by omega
      have hsl := HSM.out rs[i] (List.getElem_mem hlt)
      have hrr := HR.out rs[i] (List.getElem_mem hlt)
      obtain ⟨g0, e0, l0, m0, q0, b0⟩ := hrr.1
      obtain ⟨g1, e1, l1, m1, q1, b1⟩ := hrr.2
      obtain ⟨cur, hB, hcs, hcc⟩ := HO.out
      have hcl := hcc i rs[i] (List.getElem?_eq_getElem _)
      obtain ⟨k1, k2⟩ := hcl
      obtain ⟨v0, s0⟩ := hB.has (i := i * 3) (by rw [hcs]; omega)
      have z0 := hB.frozen (i * 3)
      have hgl := hB.lt
      have c1 : wr.cell? ⟨g, i * 3 + 1, none⟩ = some (.slice (some ⟨g0, 0, none⟩) rs[i].Cues.length rs[i].Cues.length) := (hB.cell _).trans (by rw [k1, e0, q0])
      have c2 : wr.cell? ⟨g, i * 3 + 2, none⟩ = some (.slice (some ⟨g1, 0, none⟩) rs[i].Remarks.length rs[i].Remarks.length) := (hB.cell _).trans (by rw [k2, e1, q1])
      obtain ⟨n0, hn0⟩ : ∃ m, m = rs[i].Cues.length := ⟨_, rfl⟩
      rw [← hn0] at b0 c1 hsl
      clear hn0
      obtain ⟨n1, hn1⟩ : ∃ m, m = rs[i].Remarks.length := ⟨_, rfl⟩
      rw [← hn1] at b1 c2 hsl
      clear hn1
      clear hcc hcs hB k1 k2 e0 q0 e1 q1
      go_wp2_with fail
      have HO1 := hide (HO.out.set i (.int .i64 q))
      have HR1 := hide (fun r hr => (HR.out r hr).set (g := g) (j := i * 3) (.int .i64 q))
      have HT1 := hide (HT.out.set hgl0 hgl1 (i * 3) (.int .i64 q))
      have b0' := b0.set (g' := g) (i * 3) (.int .i64 q)
      have b1' := b1.set (g' := g) (i * 3) (.int .i64 q)
      have c1' : (wr.setCell ⟨g, i * 3, none⟩ (.int .i64 q)).cell? ⟨g, i * 3 + 1, none⟩ = some (.slice (some ⟨g0, 0, none⟩) n0 n0) := (World.cell?_setCell_other _ _ _ _ (by intro e; injection e; omega)).trans c1
      have c2' : (wr.setCell ⟨g, i * 3, none⟩ (.int .i64 q)).cell? ⟨g, i * 3 + 2, none⟩ = some (.slice (some ⟨g1, 0, none⟩) n1 n1) := (World.cell?_setCell_other _ _ _ _ (by intro e; injection e; omega)).trans c2
      clear b0 b1 c1 c2 HO HR HT s0 z0 v0
      generalize (wr.setCell ⟨g, i * 3, none⟩ (.int .i64 q)) = wa at *
      obtain ⟨L0, ho0⟩ := b0'.own (base := 0) (n := n0) (k := 1) (Nat.zero_le _) (by unfold maxLen; omega) rfl
      refine (c_markStringS (some ⟨g0, 0, none⟩) n0 n0 0 L0 _ wa (by omega) (by omega) (by omega) ho0).mono ?_
      rintro e w0 ⟨rfl, L0', ho0', _, hgr0⟩
      replace hgr0 : _root_.Go.World.grownBy wa w0 (some g0) := hgr0
      replace HO1 := hide (HO1.out.grown hgr0 (by omega))
      replace HR1 := hide (fun r hr => (HR1.out r hr).grown b0' ho0' rfl hgr0)
      replace HT1 := hide (HT1.out.trans (Touch.grown hgr0 (by intro z hz; injection hz with hz; omega)))
      replace b1' := b1'.grown b0' ho0' rfl hgr0
      replace c2' : w0.cell? ⟨g, i * 3 + 2, none⟩ = some (.slice (some ⟨g1, 0, none⟩) n1 n1) := cell_grown hgr0 (by omega) c2'
      clear hgr0 ho0' ho0 b0' c1'
      go_wp2_with fail
      obtain ⟨L1, ho1⟩ := b1'.own (base := 0) (n := n1) (k := 4) (Nat.zero_le _) (by unfold maxLen; omega) rfl
      refine (c_markRemarkS (some ⟨g1, 0, none⟩) n1 n1 0 L1 _ w0 (by omega) (by omega) (by omega) ho1).mono ?_
      rintro e w1 ⟨rfl, L1', ho1', _, hgr1⟩
      replace hgr1 : _root_.Go.World.grownBy w0 w1 (some g1) := hgr1
      replace HO1 := hide (HO1.out.grown hgr1 (by omega))
      replace HR1 := hide (fun r hr => (HR1.out r hr).grown b1' ho1' rfl hgr1)
      replace HT1 := hide (HT1.out.trans (Touch.grown hgr1 (by intro z hz; injection hz with hz; omega)))
      clear hgr1 ho1' ho1 b1' c2'
      go_wp2_with fail
      go_roundw
      case rel => exact ⟨i + 1, _, by omega, by go_num, rfl, by omega, by omega, HO1, HR1, HT1⟩
      case measure => simp [intOf]; omega
    · obtain rfl : i = n := by omega
      go_wp2
      go_ret
      exact ⟨_, rfl, by omega, by omega, HT.out⟩

theorem Touch.of_x {lo hi : Nat} {w w' : World} (hx : IsX w w') : Touch lo hi w w' := ⟨hx.below.os, hx.below.tape, hx.below.output, hx.size, fun k hk _ => hx.below.block k hk⟩
theorem Blk.touch {lo hi g t : Nat} {cs : Array Value} {w w' : World} (h : Blk w g t cs) (ht : Touch lo hi w w') (hg : g < lo ∨ hi ≤ g) : Blk w' g t cs := (ht.block g h.lt hg).trans h
set_option maxHeartbeats 1600000 in
theorem c_markRun (d : Int) (gC gR m1 m2 lo hi : Nat) (csC csR : Array Value) (k : Int) (w : World) (hm1 : m1 ≤ 1048576) (hm2 : m2 ≤ 1048576) (h0 : 0 ≤ k) (h1 : k ≤ 17592186044416) (hC : Blk w gC 9 csC) (hCs : csC.size = m1 * 1) (hR : Blk w gR 47 csR) (hRs : csR.size = m2 * 4) (hb1 : lo ≤ gC ∧ gC < hi) (hb2 : lo ≤ gR ∧ gR < hi) :
    Calls Try.prog 17 #[.agg #[.int .i64 d, .slice (some ⟨gC, 0, none⟩) m1 m1, .slice (some ⟨gR, 0, none⟩) m2 m2], .int .i64 k] w fun e w' => ∃ k' : Int, e = .returned (.int .i64 k') ∧ 0 ≤ k' ∧ Touch lo hi w w' := by
  obtain ⟨V, hV⟩ : ∃ V, V = w.alloc (.cells #[.int .i64 d, .slice (some ⟨gC, 0, none⟩) m1 m1, .slice (some ⟨gR, 0, none⟩) m2 m2] 39) := ⟨_, rfl⟩
  have hxV : IsX w V := hV ▸ (IsX.refl w).alloc _
  have hbox : Blk V w.heap.size 39 #[.int .i64 d, .slice (some ⟨gC, 0, none⟩) m1 m1, .slice (some ⟨gR, 0, none⟩) m2 m2] := hV ▸ Blk.new w _ _
  have HXV := hide hxV
  have HBOX := hide hbox
  have HLC := hide hC.lt
  have HLR := hide hR.lt
  have HOC := hide ((hC.x hxV).own (base := 0) (k := 1) (n := m1) (Nat.zero_le _) (by unfold maxLen; omega) hCs)
  have HOR := hide ((hR.x hxV).own (base := 0) (k := 4) (n := m2) (Nat.zero_le _) (by unfold maxLen; omega) hRs)
  have HB1 := hide hb1
  have HB2 := hide hb2
  have e1 := hbox.cell 1
  have hbb := hbox.lt
  simp at e1
  clear hxV hbox hC hR hCs hRs hb1 hb2
  go_enter Try.func17, Try.ntmps17
  go_wp2_with fail
  rw [← hV]
  clear hV
  refine (c_markStringS (some ⟨gC, 0, none⟩) m1 m1 0 csC.toList _ V (by omega) (by omega) (by omega) HOC.out).mono ?_
  rintro e w1 ⟨rfl, L1, ho1, hmm, hg1⟩
  replace hg1 : _root_.Go.World.grownBy V w1 (some gC) := hg1
  have hbox1 := HBOX.out.grown hg1 (by intro e; injection e with e; have := HLC.out; omega)
  have HOR1 := hide (HOR.out.kept hg1 (own_type HOR.out HOC.out (by omega)))
  have HT1 := hide ((Touch.of_x HXV.out : Touch lo hi w V).trans (Touch.grown hg1 (by intro z hz; injection hz with hz; have := HB1.out; omega)))
  have e2 := hbox1.cell 2
  have hbb1 := hbox1.lt
  simp at e2
  clear e1 hbb hbox1 hg1 ho1 hmm
  go_wp2_with fail
  refine (c_markRemarkS (some ⟨gR, 0, none⟩) m2 m2 0 csR.toList _ w1 (by omega) (by omega) (by omega) HOR1.out).mono ?_
  rintro e w2 ⟨rfl, L2, ho2, hmm, hg2⟩
  replace hg2 : _root_.Go.World.grownBy w1 w2 (some gR) := hg2
  have HT2 := hide (HT1.out.trans (Touch.grown hg2 (by intro z hz; injection hz with hz; have := HB2.out; omega)))
  clear e2 hbb1 hg2 ho2 hmm
  go_wp2_with fail
  go_ret
  exact ⟨_, rfl, by omega, HT2.out⟩
end Go.Proofs.Yteneapchgmmhbaa
