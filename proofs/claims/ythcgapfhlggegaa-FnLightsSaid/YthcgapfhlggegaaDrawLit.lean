/- DrawFewestUniverses and DrawFadeLevels: some lists of small numbers, and a number. Conditions: codes no longer than 2^40. -/
import Derived.Test.YthcgapfhlggegaaDrawInts
namespace Go.Proofs.Ythcgapfhlggegaa
set_option linter.unusedVariables false
open Go.RowKit Go.ChangeShapes

def DrawWQ (w : World) (e : Ending) (w' : World) : Prop := ∃ (A : Option Addr) (c : Nat) (xs : List Int) (bud : Int), e = .returned (.tuple #[.slice A xs.length c, .int .i64 bud]) ∧ xs.length ≤ 100 ∧ (∀ x ∈ xs, 0 ≤ x ∧ x ≤ 65) ∧ intWf bud ∧ w'.ownsRow w.heap.size 2 1 (.slice A xs.length c) xs.length (xs.flatMap intC) ∧ IsX w w'
def DrawLQ (w : World) (e : Ending) (w' : World) : Prop := ∃ (A : Option Addr) (c : Nat) (xs : List Int) (A2 : Option Addr) (c2 : Nat) (ys : List Int) (sh : Int), e = .returned (.tuple #[.slice A xs.length c, .slice A2 ys.length c2, .int .i64 sh]) ∧ xs.length ≤ 100 ∧ ys.length ≤ 100 ∧ w'.ownsRow w.heap.size 2 1 (.slice A xs.length c) xs.length (xs.flatMap intC) ∧ w'.ownsRow w.heap.size 2 1 (.slice A2 ys.length c2) ys.length (ys.flatMap intC) ∧ IsX w w'
set_option maxHeartbeats 3200000 in
set_option maxRecDepth 100000 in
theorem c_DrawFewestUniverses (A : Option Addr) (c : Nat) (bs : List Int) (w : World) (hn : bs.length ≤ 1099511627776) (hb : ∀ x ∈ bs, byteWf x) (hA : Rd byteC 1 w A bs) :
    Calls Try.prog 12 #[.slice A bs.length c] w (DrawWQ w) := by
  have HF := hide (c_l00From A c bs w hn hb hA)
  generalize bs.length = bl at HF ⊢
  clear hn hb hA
  go_enter Try.func12, Try.ntmps12
  go_wp2_with fail
  refine HF.out.mono ?_
  rintro e w1 ⟨rfl, hs, hx⟩
  obtain ⟨X, hX⟩ : ∃ X, X = w.heap.size := ⟨_, rfl⟩
  rw [← hX] at hs ⊢
  have hXw : w.heap.size ≤ X := by omega
  clear hX
  have HX1 := hide hx
  have HS1 := hide hs
  have hX1 := hs.lt
  clear hx hs HF
  go_wp2_with fail
  refine (c_drawWidths X 0 w1 (by omega) HS1.out).mono ?_
  rintro e w2 ⟨A2, c2, xs, rfl, hxl, hbd, ho, hg, hat⟩
  have HO := hide ho
  have HG := hide hg
  have HS2 := hide hat
  have HBD := hide hbd
  obtain ⟨n, hnn⟩ : ∃ n, n = xs.length := ⟨_, rfl⟩
  have HN := hide hnn
  rw [← hnn] at hxl HO ⊢
  clear ho hg hat hbd hnn HS1
  go_wp2_with fail
  refine (c_budget X _ w2 (by omega) HS2.out).mono ?_
  rintro e w5 ⟨u, rfl, u0, u1, hg, hat⟩
  have HO5 := hide (own_grX HO.out hg hX1)
  have HG5 := hide (gr_tr HG.out hg)
  clear hg hat HO HG HS2
  go_wp2_with fail
  go_ret2
  exact ⟨A2, c2, xs, u, by rw [← HN.out]; rfl, by rw [← HN.out]; exact hxl, HBD.out, by unfold intWf; omega, by rw [← HN.out]; exact row_le' HO5.out HX1.out.size, IsX.grown HX1.out HG5.out (by intro z hz; injection hz with hz; omega)⟩
set_option maxHeartbeats 3200000 in
set_option maxRecDepth 100000 in
theorem c_DrawFadeLevels (A : Option Addr) (c : Nat) (bs : List Int) (w : World) (hn : bs.length ≤ 1099511627776) (hb : ∀ x ∈ bs, byteWf x) (hA : Rd byteC 1 w A bs) :
    Calls Try.prog 15 #[.slice A bs.length c] w (DrawLQ w) := by
  have HF := hide (c_l00From A c bs w hn hb hA)
  generalize bs.length = bl at HF ⊢
  clear hn hb hA
  go_enter Try.func15, Try.ntmps15
  go_wp2_with fail
  refine HF.out.mono ?_
  rintro e w1 ⟨rfl, hs, hx⟩
  obtain ⟨X, hX⟩ : ∃ X, X = w.heap.size := ⟨_, rfl⟩
  rw [← hX] at hs ⊢
  have hXw : w.heap.size ≤ X := by omega
  clear hX
  have HX1 := hide hx
  have HS1 := hide hs
  have hX1 := hs.lt
  clear hx hs HF
  go_wp2_with fail
  refine (c_pick X 0 8 w1 (by omega) (by omega) HS1.out).mono ?_
  rintro e w2 ⟨m, rfl, m0, m1, hg, hat⟩
  have hm1 : m ≤ 7 := by simpa using m1
  have HG2 := hide hg
  have HS2 := hide hat
  have hX2 : X < w2.heap.size := hat.lt
  clear hg hat m1 HS1
  go_wp2_with fail
  refine (c_drawLevels X _ m w2 (by omega) m0 (by omega) HS2.out).mono ?_
  rintro e w3 ⟨A2, c2, xs, rfl, hxl, hbd, ho, hg, hat⟩
  have HO := hide ho
  have HG3 := hide (gr_tr HG2.out hg)
  have HS3 := hide hat
  have hX3 : X < w3.heap.size := hat.lt
  obtain ⟨n, hnn⟩ : ∃ n, n = xs.length := ⟨_, rfl⟩
  have HN := hide hnn
  rw [← hnn] at hxl HO ⊢
  clear ho hg hat hbd hnn HS2
  go_wp2_with fail
  refine (c_drawLevels X _ m w3 (by omega) m0 (by omega) HS3.out).mono ?_
  rintro e w4 ⟨A3, c3, ys, rfl, hyl, hbd, ho, hg, hat⟩
  have HO4 := hide (own_grX HO.out hg hX2)
  have HP4 := hide ho
  have HG4 := hide (gr_tr HG3.out hg)
  have HS4 := hide hat
  obtain ⟨n3, hnn⟩ : ∃ n3, n3 = ys.length := ⟨_, rfl⟩
  have HN3 := hide hnn
  rw [← hnn] at hyl HP4 ⊢
  clear ho hg hat hbd hnn HS3 HO
  go_wp2_with fail
  refine (c_drawShare X _ w4 (by omega) HS4.out).mono ?_
  rintro e w5 ⟨u, rfl, u0, u1, hg, hat⟩
  have HO5 := hide (own_grX HO4.out hg hX2)
  have HP5 := hide (own_grX HP4.out hg hX3)
  have HG5 := hide (gr_tr HG4.out hg)
  have h12 : w1.heap.size ≤ w2.heap.size := HG2.out.size
  have h13 : w1.heap.size ≤ w3.heap.size := HG3.out.size
  clear hg hat HO4 HP4 HG4 HS4
  go_wp2_with fail
  go_ret3
  exact ⟨A2, c2, xs, A3, c3, ys, u, by rw [← HN.out, ← HN3.out]; rfl, by rw [← HN.out]; exact hxl, by rw [← HN3.out]; exact hyl, by rw [← HN.out]; exact row_le' HO5.out (Nat.le_trans HX1.out.size h12), by rw [← HN3.out]; exact row_le' HP5.out (Nat.le_trans HX1.out.size h13), IsX.grown HX1.out HG5.out (by intro z hz; injection hz with hz; omega)⟩
end Go.Proofs.Ythcgapfhlggegaa
