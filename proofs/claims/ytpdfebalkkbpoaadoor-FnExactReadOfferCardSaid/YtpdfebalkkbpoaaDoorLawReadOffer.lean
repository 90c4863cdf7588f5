/- The law FnExactReadOffer: the walk through the law's own text. Conditions: the library's variables as the rows lay them. -/
import Derived.Test.YtpdfebalkkbpoaaDoorReadOfferS
import Derived.Test.YtpdfebalkkbpoaaDoorReadOfferI
namespace Go.Proofs.YtpdfebalkkbpoaaDoor
set_option linter.unusedVariables false
open Go.RowKit

set_option maxHeartbeats 1600000 in
set_option maxRecDepth 100000 in
theorem s_ReadOffer (s : ByteArray) (w : World) (hs : s.size ≤ 2147483648) (he : EnvOk w) :
    Calls Tryd.prog 8 #[.string s] w fun e w' => e = .returned (.tuple #[offerV (offerZ s), .bool (offerB s)]) ∧ IsX w w' := by
  have hx0 : IsX w (w.alloc (.cells #[.string ⟨#[]⟩, .string ⟨#[]⟩, .int .i64 0, .int .i64 0, .int .i64 0] 29)) := (IsX.refl w).alloc _
  have hB0 : Blk (w.alloc (.cells #[.string ⟨#[]⟩, .string ⟨#[]⟩, .int .i64 0, .int .i64 0, .int .i64 0] 29)) w.heap.size 29 #[.string ⟨#[]⟩, .string ⟨#[]⟩, .int .i64 0, .int .i64 0, .int .i64 0] := Blk.new _ _ _
  have HS := hide (fun W hW => s_l22Read s W hs hW)
  have HE := hide he
  clear he
  generalize offerZ s = x at *
  generalize offerB s = b at *
  simp only [offerV] at HS
  go_enter Tryd.func8, Tryd.ntmps8
  go_wp2_with fail
  generalize w.alloc (.cells #[.string ⟨#[]⟩, .string ⟨#[]⟩, .int .i64 0, .int .i64 0, .int .i64 0] 29) = w0 at *
  refine (HS.out w0 (HE.out.x hx0)).mono ?_
  rintro e ws ⟨rfl, hx1⟩
  have HB := hB0.x hx1
  have HX := hx0.trans hx1
  have f0 := HB.cell 0
  have f1 := HB.cell 1
  have f2 := HB.cell 2
  have f3 := HB.cell 3
  have f4 := HB.cell 4
  have z0 := HB.frozen 0
  have z1 := HB.frozen 1
  have z2 := HB.frozen 2
  have z3 := HB.frozen 3
  have z4 := HB.frozen 4
  have hlt5 := HB.lt
  simp at f0 f1 f2 f3 f4
  go_wp2_with fail
  have hX6 : IsX w (((((ws.setCell ⟨w.heap.size, 0, none⟩ (.string x.Id)).setCell ⟨w.heap.size, 1, none⟩ (.string x.Kind)).setCell ⟨w.heap.size, 2, none⟩ (.int .i64 x.Start)).setCell ⟨w.heap.size, 3, none⟩ (.int .i64 x.Length)).setCell ⟨w.heap.size, 4, none⟩ (.int .i64 x.Worth)) := (IsX.setCell (a := ⟨w.heap.size, 4, none⟩) (IsX.setCell (a := ⟨w.heap.size, 3, none⟩) (IsX.setCell (a := ⟨w.heap.size, 2, none⟩) (IsX.setCell (a := ⟨w.heap.size, 1, none⟩) (IsX.setCell (a := ⟨w.heap.size, 0, none⟩) HX (Nat.le_refl _) _) (Nat.le_refl _) _) (Nat.le_refl _) _) (Nat.le_refl _) _) (Nat.le_refl _) _)
  have hB6 := (((((HB.set_ 0 (.string x.Id)).set_ 1 (.string x.Kind)).set_ 2 (.int .i64 x.Start)).set_ 3 (.int .i64 x.Length)).set_ 4 (.int .i64 x.Worth))
  clear f0 f1 f2 f3 f4 z0 z1 z2 z3 z4
  generalize (((((ws.setCell ⟨w.heap.size, 0, none⟩ (.string x.Id)).setCell ⟨w.heap.size, 1, none⟩ (.string x.Kind)).setCell ⟨w.heap.size, 2, none⟩ (.int .i64 x.Start)).setCell ⟨w.heap.size, 3, none⟩ (.int .i64 x.Length)).setCell ⟨w.heap.size, 4, none⟩ (.int .i64 x.Worth)) = V6 at *
  have r0 := hB6.cell 0
  have r1 := hB6.cell 1
  have r2 := hB6.cell 2
  have r3 := hB6.cell 3
  have r4 := hB6.cell 4
  simp at r0 r1 r2 r3 r4

  exact bodyPost_ret (v := .tuple #[offerV x, .bool b]) (by simp [results, Tryd.results8, go_sem, r0, r1, r2, r3, r4, offerV]) rfl ⟨rfl, hX6⟩
set_option maxHeartbeats 1600000 in
set_option maxRecDepth 100000 in
theorem law_FnExactReadOffer (s : ByteArray) (w : World) (he : EnvOk w) :
    Calls Tryd.prog 4 #[.string s] w fun e w' => e = .returned (.bool true) ∧ IsX w w' := by
  obtain ⟨n, hn⟩ : ∃ n, n = s.size := ⟨_, rfl⟩
  have HN := hide hn
  have hsz := hn.symm
  clear hn
  by_cases hb : 1048576 < n
  · have g : decide ((n : Int) > 1048576) = true := decide_eq_true (by omega)
    go_enter Tryd.func4, Tryd.ntmps4
    go_wp2_with fail
    go_ret
    exact ⟨rfl, IsX.refl _⟩
  have g : decide ((n : Int) > 1048576) = false := decide_eq_false (by omega)
  obtain ⟨x, hx⟩ : ∃ x, offerZ s = x := ⟨_, rfl⟩
  obtain ⟨b, hbb⟩ : ∃ b, offerB s = b := ⟨_, rfl⟩
  have HS := hide (fun W hW => s_ReadOffer s W (by omega) hW)
  have HI := hide (fun W hW => i_ReadOffer s W (by omega) hW)
  have HQ := hide (c_eqOffer x)
  have HE := hide he
  rw [hx, hbb] at HS
  rw [offerZ_same, offer_same, hx, hbb] at HI
  simp only [offerV] at HS HI
  clear hx hbb he
  go_enter Tryd.func4, Tryd.ntmps4
  go_wp2_with fail
  refine (HS.out w HE.out).mono ?_
  rintro e w3 ⟨rfl, hx3⟩
  have X3 := hx3.alloc (.cells #[.string x.Id, .string x.Kind, .int .i64 x.Start, .int .i64 x.Length, .int .i64 x.Worth] 29)
  have B3 := Blk.new w3 29 #[.string x.Id, .string x.Kind, .int .i64 x.Start, .int .i64 x.Length, .int .i64 x.Worth]
  go_wp2_with fail
  obtain ⟨b3, hb3⟩ : ∃ b, b = w3.heap.size := ⟨_, rfl⟩
  rw [← hb3] at B3 ⊢
  clear hb3
  generalize w3.alloc (.cells #[.string x.Id, .string x.Kind, .int .i64 x.Start, .int .i64 x.Length, .int .i64 x.Worth] 29) = W3 at *
  refine (HI.out W3 (HE.out.x X3)).mono ?_
  rintro e w5 ⟨rfl, hx5'⟩
  have X5 := (X3.trans hx5').alloc (.cells #[.string x.Id, .string x.Kind, .int .i64 x.Start, .int .i64 x.Length, .int .i64 x.Worth] 29)
  have B5 := Blk.new w5 29 #[.string x.Id, .string x.Kind, .int .i64 x.Start, .int .i64 x.Length, .int .i64 x.Worth]
  have B3' := B3.x hx5'
  have a0 := B3'.cell 0
  have a1 := B3'.cell 1
  have a2 := B3'.cell 2
  have a3 := B3'.cell 3
  have a4 := B3'.cell 4
  simp at a0 a1 a2 a3 a4
  have hl3 := B3'.lt
  go_wp2_with fail
  generalize w5.alloc (.cells #[.string x.Id, .string x.Kind, .int .i64 x.Start, .int .i64 x.Length, .int .i64 x.Worth] 29) = W5 at *
  refine (HQ.out W5).mono ?_
  rintro e w6 ⟨rfl, hx6'⟩
  cases b
  · go_wp2_with fail
    go_ret
    exact ⟨rfl, X5.trans hx6'⟩
  · go_wp2_with fail
    go_ret
    exact ⟨rfl, X5.trans hx6'⟩

end Go.Proofs.YtpdfebalkkbpoaaDoor
