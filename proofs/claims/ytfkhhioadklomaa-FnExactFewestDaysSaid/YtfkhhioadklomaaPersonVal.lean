/- Marks written into a list of people, with a bound of the number behind them. Conditions: lists no longer than 2^20. -/
import Derived.Test.YtfkhhioadklomaaNestMarks
namespace Go.Proofs.Ytfkhhioadklomaa
set_option linter.unusedVariables false
open Go.RowKit

set_option maxHeartbeats 3200000 in
theorem c_markPersonSB (g hi c : Nat) (rs : List PersonR) (n : Nat) (s : Int) (w : World) (hnn : n = rs.length) (hn : n ≤ 1048576) (hs0 : 1 ≤ s) (hs1 : s ≤ 1099511627776) (hsm : ∀ r ∈ rs, r.Days.length ≤ 1048576) (hgl1 : g < hi) (hO : OuterPerson w g rs) (hR : ∀ r ∈ rs, r.rows g hi w) :
    Calls Try.prog 15 #[.slice (some ⟨g, 0, none⟩) n c, .int .i64 s] w fun e w' => ∃ k' : Int, e = .returned (.int .i64 k') ∧ 0 ≤ k' ∧ k' ≤ s + n * 1048577 ∧ Touch g hi w w' := by
  have HSM := hide hsm
  have HNN := hide hnn
  have hgl0 : g ≤ g := Nat.le_refl _
  have HO0 := hide hO
  have HR0 := hide hR
  clear hsm hO hR hnn
  go_enter Try.func15, Try.ntmps15
  go_wp2
  go_loopw [1, 5] (fun kv iv wr => ∃ (i : Nat) (q : Int), i ≤ n ∧ iv = .int .i64 i ∧ kv = .int .i64 q ∧ s ≤ q ∧ q ≤ s + i * 1048577 ∧ Hid (OuterPerson wr g rs) ∧ Hid (∀ r ∈ rs, r.rows g hi wr) ∧ Hid (Touch g hi w wr)) (fun _ iv _ => n - (intOf iv).toNat)
  case atStart => exact ⟨0, s, Nat.zero_le _, rfl, rfl, by omega, by omega, HO0, HR0, hide (Touch.refl _ _ _)⟩
  case round =>
    clear HO0 HR0
    obtain ⟨i, q, hi', rfl, rfl, hq1, hq2, HO, HR, HT⟩ := hrel
    by_cases hltn : i < n
    · have hlt : i < rs.length := HNN.out ▸ hltn
      have hq3 : q ≤ 8796093022208 := by omega
      go_wp2_with fail
      refine (c_markText q wr (by omega) (by omega)).mono ?_
      rintro e wt ⟨rfl, hxt⟩
      replace HO := hide (HO.out.x hxt)
      replace HR := hide (fun r hr => (HR.out r hr).x hxt)
      replace HT := hide (HT.out.trans (Touch.ofx hxt))
      clear hxt
      have hsl := HSM.out rs[i] (List.getElem_mem hlt)
      have hrr := HR.out rs[i] (List.getElem_mem hlt)
      obtain ⟨g0, e0, l0, m0, q0, b0⟩ := hrr
      obtain ⟨cur, hB, hcs, hcc⟩ := HO.out
      have hcl := hcc i rs[i] (List.getElem?_eq_getElem _)
      have k1 := hcl
      obtain ⟨v0, s0⟩ := hB.has (i := i * 2) (by rw [hcs]; omega)
      have z0 := hB.frozen (i * 2)
      have hgl := hB.lt
      have c1 : wt.cell? ⟨g, i * 2 + 1, none⟩ = some (.slice (some ⟨g0, 0, none⟩) rs[i].Days.length rs[i].Days.length) := (hB.cell _).trans (by rw [k1, e0, q0])
      obtain ⟨n0, hn0⟩ : ∃ m, m = rs[i].Days.length := ⟨_, rfl⟩
      rw [← hn0] at b0 c1 hsl
      clear hn0
      clear hcc hcs hB k1 e0 q0
      go_wp2_with fail
      have HO1 := hide (HO.out.set i (.string (mkText q)))
      have HR1 := hide (fun r hr => (HR.out r hr).set (g := g) (j := i * 2) (.string (mkText q)))
      have HT1 := hide (HT.out.set hgl0 hgl1 (i * 2) (.string (mkText q)))
      have b0' := b0.set (g' := g) (i * 2) (.string (mkText q))
      have c1' : (wt.setCell ⟨g, i * 2, none⟩ (.string (mkText q))).cell? ⟨g, i * 2 + 1, none⟩ = some (.slice (some ⟨g0, 0, none⟩) n0 n0) := (World.cell?_setCell_other _ _ _ _ (by intro e; injection e; omega)).trans c1
      clear b0 c1 HO HR HT s0 z0 v0
      generalize (wt.setCell ⟨g, i * 2, none⟩ (.string (mkText q))) = wa at *
      obtain ⟨L0, ho0⟩ := b0'.own (base := 0) (n := n0) (k := 1) (Nat.zero_le _) (by unfold maxLen; omega) rfl
      refine (c_markInt64S (some ⟨g0, 0, none⟩) n0 n0 0 L0 _ wa (by omega) (by omega) (by omega) ho0).mono ?_
      rintro e w0 ⟨rfl, L0', ho0', _, hgr0⟩
      replace hgr0 : _root_.Go.World.grownBy wa w0 (some g0) := hgr0
      replace HO1 := hide (HO1.out.grown hgr0 (by omega))
      replace HR1 := hide (fun r hr => (HR1.out r hr).grown b0' ho0' rfl hgr0)
      replace HT1 := hide (HT1.out.trans (Touch.grown hgr0 (by intro z hz; injection hz with hz; omega)))
      clear hgr0 ho0' ho0 b0' c1'
      go_wp2_with fail
      go_roundw
      case rel => exact ⟨i + 1, _, by omega, by go_num, rfl, by omega, by omega, HO1, HR1, HT1⟩
      case measure => simp [intOf]; omega
    · obtain rfl : i = n := by omega
      go_wp2
      go_ret
      exact ⟨_, rfl, by omega, by omega, HT.out⟩

end Go.Proofs.Ytfkhhioadklomaa
